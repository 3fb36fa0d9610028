

/-
  Package fields: a message's fields.
-/
import Derived.Test.YtnjldofiogbolaaDoorFm4
import Derived.Test.YtnjldofiogbolaaDoorFmQ
namespace Go.Proofs.YtnjldofiogbolaaDoor
open Go.RowKit Go.Sl Go.ChangeShapes

instance tyMsgMapOne : TyOne Tryd.prog 49 := tyOne_mk Tryd.underlying49 (by kernel_rfl) rfl

theorem fd_eta (f : Fd) : f.cs = [str f.1, str f.2.1, .bool f.2.2] := rfl

theorem runR_snoc {N : List Txt} {L : List Fd} {j : Nat} {f : Fd} {s0 s : Ms} (h : runR N 0 (L.take j) s0 = some s) (hf : L[j]? = some f) : runR N 0 (L.take (j + 1)) s0 = stepR N j f s := by
  rw [List.take_add_one, hf, runR_app, h]
  have : (L.take j).length = j := by rw [List.length_take]; have := (List.getElem?_eq_some_iff.1 hf).1; omega
  rw [this]
  simp only [Option.toList, Option.bind_some, runR, Nat.zero_add]
  cases stepR N j f s <;> rfl
theorem runR_dead {N : List Txt} {L : List Fd} {j : Nat} {s0 : Ms} (h : runR N 0 (L.take (j + 1)) s0 = none) : runR N 0 L s0 = none := by
  rw [← List.take_append_drop (j + 1) L, runR_app, h]
  rfl

def msgPost (B : World) (R : Assn) (o : Option Ms) (e : Ending) (w' : World) : Prop :=
  match o with
  | some s => ∃ b, e = .returned (.tuple #[.agg (msgC s.len).toArray, .map (some b), .bool true]) ∧ Own B (mapA b s.map * R) w'
  | none => e = .returned (.tuple #[.agg (msgC 0).toArray, .map none, .bool false]) ∧ Own B R w'


theorem lengthR_size {s s' : Ms} {f : Fd} (h : lengthR s f = some s') : s'.map.length ≤ s.map.length + 1 ∧ s'.last = s.last := by
  rcases lengthR_cases h with ⟨_, rfl⟩ | ⟨_, k, _, _, rfl⟩
  · exact ⟨by omega, rfl⟩
  · exact ⟨Nat.le_refl _, rfl⟩

set_option maxHeartbeats 16000000 in
set_option maxRecDepth 100000 in
theorem messageC {B w : World} {R : Assn} {L : List Fd} {N : List Txt} {v u : Value} (hv : ∀ f ∈ L, f.1.length ≤ 1000000 ∧ f.2.1.length ≤ 1000000) (hL : L.length ≤ 1000) (h : Own B R w)
    (hl : ∀ w, Own B R w → rd w 3 v L.length (fds L)) (hn : ∀ w, Own B R w → rd w 1 u N.length (strs N)) :
    Calls Tryd.prog 20 #[v, u] w fun e w' => msgPost B R (messageR N L) e w' := by
  have hmf : ∀ (fn : Fn) (first cap : Array Value) (w : World), (Instr.makeFunc fn first cap).run Tryd.prog w = .ok (.func fn first cap) w := fun _ _ _ _ => rfl
  obtain ⟨ao, ac, rfl, i1, i2, -⟩ := id (hl w h)
  unfold maxLen at i2
  unfold messageR
  go_enter_defers Tryd.func20, Tryd.ntmps20
  go_wp2_with (first | ((with_reducible refine at_alloc ?_); refine hold ?_) | fail)
  unfold Held; refine wpu_new h ?_; clear h; intro w4 G; generalize w.heap.size = b4 at G ⊢
  go_wp2_with (first | ((with_reducible refine at_alloc ?_); refine hold ?_) | fail)
  unfold Held; refine wpu_new G ?_; clear G; intro w5 G; generalize w4.heap.size = b5 at G ⊢
  go_wp2_with (first | ((with_reducible refine at_alloc ?_); refine hold ?_) | fail)
  unfold Held; refine wpu_new G ?_; clear G; intro w6 G; generalize w5.heap.size = b6 at G ⊢
  go_wp2_with (first | ((with_reducible refine at_makeMap ?_); refine hold ?_) | fail)
  unfold Held; refine wpu_makeStr G rfl (by kernel_rfl) ?_; clear G; intro w7 G; generalize w6.heap.size = b at G ⊢; go_frame
  go_wp2_with (first
    | ((with_reducible refine at_alloc ?_); refine wpu_new G ?_; clear G; intro w G)
    | ((with_reducible refine at_drew ?_); refine wpu_drew G ?_; clear G; intro w G)
    | ((with_reducible refine at_load ?_); first
      | (refine wpu_load G rfl rfl rfl rfl ?_; go_frame)
      | (refine wpu_loadB G rfl rfl rfl (by rfl) ?_; go_frame)
      | (refine wpu_loadS G rfl rfl rfl (by rfl) ?_; simp only [List.drop_succ_cons, List.drop_zero, List.take_succ_cons, List.take_zero]; go_frame))
    | ((with_reducible refine at_store ?_); first
      | (refine wpu_store G rfl rfl rfl rfl (by first | rfl | assumption | simp [*]) rfl ?_; clear G; intro w G; go_frame)
      | (refine wpu_storeB G rfl rfl rfl rfl (by rfl) (by rfl) (by first | rfl | assumption | simp [*]) ?_; clear G; intro w G; go_frame)
      | (refine wpu_storeS G rfl rfl rfl rfl (by rfl) (by rfl) (by first | rfl | assumption | simp [*]) ?_; clear G; intro w G; go_frame))
    | ((with_reducible refine at_convert ?_); refine wpu_str G rfl rfl rfl rfl ?_; go_frame)
    | ((with_reducible refine at_slice ?_); first
      | (refine wpu_sliceLo rfl rfl rfl rfl (by first | rfl | omega) (by omega) (by omega) ?_; go_frame)
      | (refine wpu_sliceLH rfl rfl rfl rfl rfl (by first | rfl | omega) (by first | rfl | omega) (by omega) (by omega) ?_; go_frame))
    | fail)
  have G1 : Own B (mapA b [] * (blk b6 [.bool false] * (blk b5 [.map (some b)] * (blk b4 (msgC (-1)) * R)))) w := G
  replace G := G1.sub (blk b4 (msgC (-1)) * (blk b5 [.map (some b)] * (blk b6 [.bool false] * (mapA b [] * R))))
  clear G1
  go_loopw [17, 7, 8, 9, 10, 11] (fun i l _ _ _ _ wr => ∃ (j : Nat) (len : Int) (M : List (Txt × Txt)) (last : Nat), i = .int .i64 j ∧ l = .int .i64 last ∧ j ≤ L.length ∧ Hid (runR N 0 (L.take j) ⟨-1, [], 0⟩ = some ⟨len, M, last⟩) ∧ M.length ≤ j ∧ last ≤ j ∧
    Own B (blk b4 (msgC len) * (blk b5 [.map (some b)] * (blk b6 [.bool false] * (mapA b M * R)))) wr) (fun i _ _ _ _ _ _ => L.length - (intOf i).toNat)
  case atStart => exact ⟨0, -1, [], 0, rfl, rfl, Nat.zero_le _, Lib.hid rfl, Nat.le_refl _, Nat.le_refl _, G⟩
  case round =>
    clear G
    obtain ⟨j, len, M, last, rfl, rfl, hj, HR, hM, hla, G⟩ := hrel
    by_cases hjn : j < L.length
    · obtain ⟨f, hf⟩ : ∃ f, L[j]? = some f := ⟨L[j], List.getElem?_eq_getElem hjn⟩
      obtain ⟨ad, rfl⟩ := rd_some (hl _ (G.sub R)) (by omega)
      have HF := Lib.hid (fds_at hf)
      obtain ⟨vn, vv⟩ := hv f (List.mem_of_getElem? hf)
      have HS := Lib.hid (runR_snoc HR.out hf)
      have hdead : stepR N j f ⟨len, M, last⟩ = none → Hid (runR N 0 L ⟨-1, [], 0⟩ = none) := fun e => Lib.hid (runR_dead (HS.out.trans e))
      obtain ⟨q1, hq1⟩ : ∃ q, valueR f.2.1 = q := ⟨_, rfl⟩
      obtain ⟨q2, hq2⟩ : ∃ q, hopR f = q := ⟨_, rfl⟩
      obtain ⟨q3, hq3⟩ : ∃ q, pseudoR f = q := ⟨_, rfl⟩
      have H1 := Lib.hid hq1
      have H2 := Lib.hid hq2
      have H3 := Lib.hid hq3
      clear hf hq1 hq2 hq3
      go_wp2_with (first
        | ((with_reducible refine at_load ?_); first
          | (refine wpu_loadE (k := j) (hl _ (G.sub R)) HF.out rfl (by kernel_rfl) rfl rfl ?_; go_frame)
          | (refine wpu_load G rfl rfl rfl rfl ?_; go_frame)
          | (refine wpu_loadB G rfl rfl rfl (by rfl) ?_; go_frame))
        | ((with_reducible refine at_alloc ?_); refine wpu_new G ?_; clear G; intro w G)
        | ((with_reducible refine at_drew ?_); refine wpu_drew G ?_; clear G; intro w G)
        | ((with_reducible refine at_load ?_); first
          | (refine wpu_load G rfl rfl rfl rfl ?_; go_frame)
          | (refine wpu_loadB G rfl rfl rfl (by rfl) ?_; go_frame)
          | (refine wpu_loadS G rfl rfl rfl (by rfl) ?_; simp only [List.drop_succ_cons, List.drop_zero, List.take_succ_cons, List.take_zero]; go_frame))
        | ((with_reducible refine at_store ?_); first
          | (refine wpu_store G rfl rfl rfl rfl (by first | rfl | assumption | simp [*]) rfl ?_; clear G; intro w G; go_frame)
          | (refine wpu_storeB G rfl rfl rfl rfl (by rfl) (by rfl) (by first | rfl | assumption | simp [*]) ?_; clear G; intro w G; go_frame)
          | (refine wpu_storeS G rfl rfl rfl rfl (by rfl) (by rfl) (by first | rfl | assumption | simp [*]) ?_; clear G; intro w G; go_frame))
        | ((with_reducible refine at_convert ?_); refine wpu_str G rfl rfl rfl rfl ?_; go_frame)
        | ((with_reducible refine at_slice ?_); first
          | (refine wpu_sliceLo rfl rfl rfl rfl (by first | rfl | omega) (by omega) (by omega) ?_; go_frame)
          | (refine wpu_sliceLH rfl rfl rfl rfl rfl (by first | rfl | omega) (by first | rfl | omega) (by omega) (by omega) ?_; go_frame))
        | (go_at_call 29; refine hold ?_)
        | fail)
      unfold Held
      refine Calls.mono (valueC vv G) ?_
      clear G; rintro e w ⟨rfl, G⟩
      rw [H1.out]
      cases q1
      · have HB := hdead (by unfold stepR; rw [if_pos (by rw [H1.out]; rfl)])
        go_wp2_with (first
          | (go_at_call 28; refine Calls.mono (mustF _) ?_; rintro e w ⟨rfl, rfl⟩)
          | fail)
        as_aux_lemma =>
        refine leaves_cons (f := 27) (args := #[.pointer (some ⟨b4, 0, none⟩), .pointer (some ⟨b5, 0, none⟩), .pointer (some ⟨b6, 0, none⟩)]) (by simp) (by simp [go_sem]) ?_
        refine (catchP (l := len) (m := .map (some b)) (k := false) (G.sub (blk b4 (msgC len) * (blk b5 [.map (some b)] * (blk b6 [.bool false] * R))))).mono ?_
        clear G
        rintro e u' w ⟨rfl, rfl, G⟩
        refine ⟨_, results3 rfl (by exact resB G rfl (by rfl)) (by exact resO G rfl rfl) (by exact resO G rfl rfl), ?_⟩
        show msgPost _ _ _ _ _
        rw [HB.out]
        exact ⟨rfl, G.right.right.right⟩
      · go_wp2_with (first
          | ((with_reducible refine at_alloc ?_); refine wpu_new G ?_; clear G; intro w G)
          | ((with_reducible refine at_drew ?_); refine wpu_drew G ?_; clear G; intro w G)
          | ((with_reducible refine at_load ?_); first
            | (refine wpu_load G rfl rfl rfl rfl ?_; go_frame)
            | (refine wpu_loadB G rfl rfl rfl (by rfl) ?_; go_frame)
            | (refine wpu_loadS G rfl rfl rfl (by rfl) ?_; simp only [List.drop_succ_cons, List.drop_zero, List.take_succ_cons, List.take_zero]; go_frame))
          | ((with_reducible refine at_store ?_); first
            | (refine wpu_store G rfl rfl rfl rfl (by first | rfl | assumption | simp [*]) rfl ?_; clear G; intro w G; go_frame)
            | (refine wpu_storeB G rfl rfl rfl rfl (by rfl) (by rfl) (by first | rfl | assumption | simp [*]) ?_; clear G; intro w G; go_frame)
            | (refine wpu_storeS G rfl rfl rfl rfl (by rfl) (by rfl) (by first | rfl | assumption | simp [*]) ?_; clear G; intro w G; go_frame))
          | ((with_reducible refine at_convert ?_); refine wpu_str G rfl rfl rfl rfl ?_; go_frame)
          | ((with_reducible refine at_slice ?_); first
            | (refine wpu_sliceLo rfl rfl rfl rfl (by first | rfl | omega) (by omega) (by omega) ?_; go_frame)
            | (refine wpu_sliceLH rfl rfl rfl rfl rfl (by first | rfl | omega) (by first | rfl | omega) (by omega) (by omega) ?_; go_frame))
          | (go_at_call 30; refine hold ?_)
          | fail)
        unfold Held
        refine Calls.mono (hopC (f := f) G) ?_
        clear G; rintro e w ⟨rfl, G⟩
        rw [H2.out]
        cases q2
        · go_wp2_with (first
            | ((with_reducible refine at_alloc ?_); refine wpu_new G ?_; clear G; intro w G)
            | ((with_reducible refine at_drew ?_); refine wpu_drew G ?_; clear G; intro w G)
            | ((with_reducible refine at_load ?_); first
              | (refine wpu_load G rfl rfl rfl rfl ?_; go_frame)
              | (refine wpu_loadB G rfl rfl rfl (by rfl) ?_; go_frame)
              | (refine wpu_loadS G rfl rfl rfl (by rfl) ?_; simp only [List.drop_succ_cons, List.drop_zero, List.take_succ_cons, List.take_zero]; go_frame))
            | ((with_reducible refine at_store ?_); first
              | (refine wpu_store G rfl rfl rfl rfl (by first | rfl | assumption | simp [*]) rfl ?_; clear G; intro w G; go_frame)
              | (refine wpu_storeB G rfl rfl rfl rfl (by rfl) (by rfl) (by first | rfl | assumption | simp [*]) ?_; clear G; intro w G; go_frame)
              | (refine wpu_storeS G rfl rfl rfl rfl (by rfl) (by rfl) (by first | rfl | assumption | simp [*]) ?_; clear G; intro w G; go_frame))
            | ((with_reducible refine at_convert ?_); refine wpu_str G rfl rfl rfl rfl ?_; go_frame)
            | ((with_reducible refine at_slice ?_); first
              | (refine wpu_sliceLo rfl rfl rfl rfl (by first | rfl | omega) (by omega) (by omega) ?_; go_frame)
              | (refine wpu_sliceLH rfl rfl rfl rfl rfl (by first | rfl | omega) (by first | rfl | omega) (by omega) (by omega) ?_; go_frame))
            | (go_at_call 28; refine Calls.mono (mustT _) ?_; rintro e w ⟨rfl, rfl⟩)
            | (go_at_call 31; refine hold ?_)
            | fail)
          unfold Held
          refine Calls.mono (pseudoC (f := f) G) ?_
          clear G; rintro e w ⟨rfl, G⟩
          rw [H3.out]
          have HV : Hid ((valueR f.2.1 && !hopR f) = true) := Lib.hid (by rw [H1.out, H2.out]; rfl)
          cases q3
          · obtain ⟨q4, hq4⟩ : ∃ q, nameR f.1 = q := ⟨_, rfl⟩
            have H4 := Lib.hid hq4
            clear hq4
            go_wp2_with (first
              | ((with_reducible refine at_alloc ?_); refine wpu_new G ?_; clear G; intro w G)
              | ((with_reducible refine at_drew ?_); refine wpu_drew G ?_; clear G; intro w G)
              | ((with_reducible refine at_load ?_); first
                | (refine wpu_load G rfl rfl rfl rfl ?_; go_frame)
                | (refine wpu_loadB G rfl rfl rfl (by rfl) ?_; go_frame)
                | (refine wpu_loadS G rfl rfl rfl (by rfl) ?_; simp only [List.drop_succ_cons, List.drop_zero, List.take_succ_cons, List.take_zero]; go_frame))
              | ((with_reducible refine at_store ?_); first
                | (refine wpu_store G rfl rfl rfl rfl (by first | rfl | assumption | simp [*]) rfl ?_; clear G; intro w G; go_frame)
                | (refine wpu_storeB G rfl rfl rfl rfl (by rfl) (by rfl) (by first | rfl | assumption | simp [*]) ?_; clear G; intro w G; go_frame)
                | (refine wpu_storeS G rfl rfl rfl rfl (by rfl) (by rfl) (by first | rfl | assumption | simp [*]) ?_; clear G; intro w G; go_frame))
              | ((with_reducible refine at_convert ?_); refine wpu_str G rfl rfl rfl rfl ?_; go_frame)
              | ((with_reducible refine at_slice ?_); first
                | (refine wpu_sliceLo rfl rfl rfl rfl (by first | rfl | omega) (by omega) (by omega) ?_; go_frame)
                | (refine wpu_sliceLH rfl rfl rfl rfl rfl (by first | rfl | omega) (by first | rfl | omega) (by omega) (by omega) ?_; go_frame))
              | (go_at_call 32; refine hold ?_)
              | fail)
            unfold Held
            refine Calls.mono (nameC vn G) ?_
            clear G; rintro e w ⟨rfl, G⟩
            rw [H4.out]
            cases q4
            · have HB := hdead (by unfold stepR; rw [if_neg (by rw [HV.out]; decide), if_pos H3.out, if_neg (by rw [H4.out]; decide)])
              go_wp2_with (first
                | (go_at_call 28; refine Calls.mono (mustF _) ?_; rintro e w ⟨rfl, rfl⟩)
                | fail)
              as_aux_lemma =>
              refine leaves_cons (f := 27) (args := #[.pointer (some ⟨b4, 0, none⟩), .pointer (some ⟨b5, 0, none⟩), .pointer (some ⟨b6, 0, none⟩)]) (by simp) (by simp [go_sem]) ?_
              refine (catchP (l := len) (m := .map (some b)) (k := false) (G.sub (blk b4 (msgC len) * (blk b5 [.map (some b)] * (blk b6 [.bool false] * R))))).mono ?_
              clear G
              rintro e u' w ⟨rfl, rfl, G⟩
              refine ⟨_, results3 rfl (by exact resB G rfl (by rfl)) (by exact resO G rfl rfl) (by exact resO G rfl rfl), ?_⟩
              show msgPost _ _ _ _ _
              rw [HB.out]
              exact ⟨rfl, G.right.right.right⟩
            · have HST : Hid (stepR N j f ⟨len, M, last⟩ = lengthR ⟨len, M, last⟩ f) := Lib.hid (by unfold stepR; rw [if_neg (by rw [HV.out]; decide), if_pos H3.out, if_pos H4.out])
              go_wp2_with (first
                | (go_at_call 28; refine Calls.mono (mustT _) ?_; rintro e w ⟨rfl, rfl⟩)
                | ((with_reducible refine at_alloc ?_); refine wpu_new G ?_; clear G; intro w G)
                | ((with_reducible refine at_drew ?_); refine wpu_drew G ?_; clear G; intro w G)
                | ((with_reducible refine at_load ?_); first
                  | (refine wpu_load G rfl rfl rfl rfl ?_; go_frame)
                  | (refine wpu_loadB G rfl rfl rfl (by rfl) ?_; go_frame)
                  | (refine wpu_loadS G rfl rfl rfl (by rfl) ?_; simp only [List.drop_succ_cons, List.drop_zero, List.take_succ_cons, List.take_zero]; go_frame))
                | ((with_reducible refine at_store ?_); first
                  | (refine wpu_store G rfl rfl rfl rfl (by first | rfl | assumption | simp [*]) rfl ?_; clear G; intro w G; go_frame)
                  | (refine wpu_storeB G rfl rfl rfl rfl (by rfl) (by rfl) (by first | rfl | assumption | simp [*]) ?_; clear G; intro w G; go_frame)
                  | (refine wpu_storeS G rfl rfl rfl rfl (by rfl) (by rfl) (by first | rfl | assumption | simp [*]) ?_; clear G; intro w G; go_frame))
                | ((with_reducible refine at_convert ?_); refine wpu_str G rfl rfl rfl rfl ?_; go_frame)
                | ((with_reducible refine at_slice ?_); first
                  | (refine wpu_sliceLo rfl rfl rfl rfl (by first | rfl | omega) (by omega) (by omega) ?_; go_frame)
                  | (refine wpu_sliceLH rfl rfl rfl rfl rfl (by first | rfl | omega) (by first | rfl | omega) (by omega) (by omega) ?_; go_frame))
                | (go_at_call 33; refine hold ?_)
                | fail)
              unfold Held
              obtain ⟨o, ho⟩ : ∃ o, lengthR ⟨len, M, last⟩ f = o := ⟨_, rfl⟩
              have HO := Lib.hid ho
              have hc := lengthC (s := ⟨len, M, last⟩) (f := f) vv (by simp only; omega) (G.pull (mapA b M))
              rw [ho] at hc
              clear ho
              cases o with
              | none =>
                have HB := hdead (HST.out.trans HO.out)
                refine Calls.mono hc ?_
                clear hc G; rintro e w ⟨rfl, G⟩
                simp only at G
                go_wp2_with fail
                as_aux_lemma =>
                refine leaves_cons (f := 27) (args := #[.pointer (some ⟨b4, 0, none⟩), .pointer (some ⟨b5, 0, none⟩), .pointer (some ⟨b6, 0, none⟩)]) (by simp) (by simp [go_sem]) ?_
                refine (catchP (l := len) (m := .map (some b)) (k := false) (G.sub (blk b4 (msgC len) * (blk b5 [.map (some b)] * (blk b6 [.bool false] * R))))).mono ?_
                clear G
                rintro e u' w ⟨rfl, rfl, G⟩
                refine ⟨_, results3 rfl (by exact resB G rfl (by rfl)) (by exact resO G rfl rfl) (by exact resO G rfl rfl), ?_⟩
                show msgPost _ _ _ _ _
                rw [HB.out]
                exact ⟨rfl, G.right.right.right⟩
              | some s' =>
                obtain ⟨len', M', last'⟩ := s'
                obtain ⟨z1, z2⟩ := lengthR_size HO.out
                simp only at z1 z2 hc
                subst z2
                have HN := Lib.hid (HS.out.trans (HST.out.trans HO.out))
                refine Calls.mono hc ?_
                clear hc G hdead; rintro e w ⟨rfl, G⟩
                go_wp2_with (first
                  | ((with_reducible refine at_alloc ?_); refine wpu_new G ?_; clear G; intro w G)
                  | ((with_reducible refine at_drew ?_); refine wpu_drew G ?_; clear G; intro w G)
                  | ((with_reducible refine at_load ?_); first
                    | (refine wpu_load G rfl rfl rfl rfl ?_; go_frame)
                    | (refine wpu_loadB G rfl rfl rfl (by rfl) ?_; go_frame)
                    | (refine wpu_loadS G rfl rfl rfl (by rfl) ?_; simp only [List.drop_succ_cons, List.drop_zero, List.take_succ_cons, List.take_zero]; go_frame))
                  | ((with_reducible refine at_store ?_); first
                    | (refine wpu_store G rfl rfl rfl rfl (by first | rfl | assumption | simp [*]) rfl ?_; clear G; intro w G; go_frame)
                    | (refine wpu_storeB G rfl rfl rfl rfl (by rfl) (by rfl) (by first | rfl | assumption | simp [*]) ?_; clear G; intro w G; go_frame)
                    | (refine wpu_storeS G rfl rfl rfl rfl (by rfl) (by rfl) (by first | rfl | assumption | simp [*]) ?_; clear G; intro w G; go_frame))
                  | ((with_reducible refine at_convert ?_); refine wpu_str G rfl rfl rfl rfl ?_; go_frame)
                  | ((with_reducible refine at_slice ?_); first
                    | (refine wpu_sliceLo rfl rfl rfl rfl (by first | rfl | omega) (by omega) (by omega) ?_; go_frame)
                    | (refine wpu_sliceLH rfl rfl rfl rfl rfl (by first | rfl | omega) (by first | rfl | omega) (by omega) (by omega) ?_; go_frame))
                  | fail)
                have G1 : Own B (mapA b M' * (blk wr.heap.size [str f.1, str f.2.1, .bool f.2.2] * (blk b4 (msgC len') * (blk b5 [.map (some b)] * (blk b6 [.bool false] * R))))) w := G
                have G2 := G1.sub (blk b4 (msgC len') * (blk b5 [.map (some b)] * (blk b6 [.bool false] * (mapA b M' * R))))
                clear G G1
                go_roundw
                case rel => exact ⟨j + 1, len', M', last', by go_num, rfl, by omega, HN, by omega, by omega, G2⟩
                case measure => simp [intOf] <;> omega
          · obtain ⟨q6, hq6⟩ : ∃ q, (getM M f.1).isSome = q := ⟨_, rfl⟩
            have H6 := Lib.hid hq6
            clear hq6
            by_cases hjl : j = last
            · subst hjl
              cases q6
              · obtain ⟨q7, hq7⟩ : ∃ q, decide (f.1 ∈ N) = q := ⟨_, rfl⟩
                have H7 := Lib.hid hq7
                clear hq7
                go_wp2_with (first
                  | ((with_reducible refine at_lookup ?_); refine wpu_strLookOk G rfl (by kernel_rfl) rfl rfl (by unfold maxLen; omega) rfl H6.out ?_; go_frame)
                  | ((with_reducible refine at_alloc ?_); refine wpu_new G ?_; clear G; intro w G)
                  | ((with_reducible refine at_drew ?_); refine wpu_drew G ?_; clear G; intro w G)
                  | ((with_reducible refine at_load ?_); first
                    | (refine wpu_load G rfl rfl rfl rfl ?_; go_frame)
                    | (refine wpu_loadB G rfl rfl rfl (by rfl) ?_; go_frame)
                    | (refine wpu_loadS G rfl rfl rfl (by rfl) ?_; simp only [List.drop_succ_cons, List.drop_zero, List.take_succ_cons, List.take_zero]; go_frame))
                  | ((with_reducible refine at_store ?_); first
                    | (refine wpu_store G rfl rfl rfl rfl (by first | rfl | assumption | simp [*]) rfl ?_; clear G; intro w G; go_frame)
                    | (refine wpu_storeB G rfl rfl rfl rfl (by rfl) (by rfl) (by first | rfl | assumption | simp [*]) ?_; clear G; intro w G; go_frame)
                    | (refine wpu_storeS G rfl rfl rfl rfl (by rfl) (by rfl) (by first | rfl | assumption | simp [*]) ?_; clear G; intro w G; go_frame))
                  | ((with_reducible refine at_convert ?_); refine wpu_str G rfl rfl rfl rfl ?_; go_frame)
                  | ((with_reducible refine at_slice ?_); first
                    | (refine wpu_sliceLo rfl rfl rfl rfl (by first | rfl | omega) (by omega) (by omega) ?_; go_frame)
                    | (refine wpu_sliceLH rfl rfl rfl rfl rfl (by first | rfl | omega) (by first | rfl | omega) (by omega) (by omega) ?_; go_frame))
                  | (go_at_call 34; refine hold ?_)
                  | fail)
                unfold Held
                refine Calls.mono (containsS (N := N) (x := f.1) G (fun w h => hn w (h.sub R))) ?_
                clear G; rintro e w ⟨rfl, G⟩
                rw [H7.out]
                cases q7
                · have HB := hdead (by unfold stepR; rw [if_neg (by rw [HV.out]; decide), if_neg (by rw [H3.out]; decide), if_neg (fun e => absurd H7.out (by rw [decide_eq_true e.2.2]; decide))])
                  go_wp2_with (first
                    | (go_at_call 28; refine Calls.mono (mustF _) ?_; rintro e w ⟨rfl, rfl⟩)
                    | fail)
                  as_aux_lemma =>
                  refine leaves_cons (f := 27) (args := #[.pointer (some ⟨b4, 0, none⟩), .pointer (some ⟨b5, 0, none⟩), .pointer (some ⟨b6, 0, none⟩)]) (by simp) (by simp [go_sem]) ?_
                  refine (catchP (l := len) (m := .map (some b)) (k := false) (G.sub (blk b4 (msgC len) * (blk b5 [.map (some b)] * (blk b6 [.bool false] * R))))).mono ?_
                  clear G
                  rintro e u' w ⟨rfl, rfl, G⟩
                  refine ⟨_, results3 rfl (by exact resB G rfl (by rfl)) (by exact resO G rfl rfl) (by exact resO G rfl rfl), ?_⟩
                  show msgPost _ _ _ _ _
                  rw [HB.out]
                  exact ⟨rfl, G.right.right.right⟩
                · have HN : Hid (runR N 0 (L.take (j + 1)) ⟨-1, [], 0⟩ = some ⟨len, (f.1, f.2.1) :: M, j + 1⟩) := Lib.hid (HS.out.trans (by
                    unfold stepR
                    rw [if_neg (by rw [HV.out]; decide), if_neg (by rw [H3.out]; decide), if_pos ⟨rfl, H6.out, of_decide_eq_true H7.out⟩]))
                  clear hdead
                  go_wp2_with (first
                    | (go_at_call 28; refine Calls.mono (mustT _) ?_; rintro e w ⟨rfl, rfl⟩)
                    | ((with_reducible refine at_update ?_); refine wpu_strPut G rfl rfl rfl rfl rfl (by unfold maxLen; omega) (by unfold maxLen; omega) (by unfold maxLen; omega) ?_; clear G; intro w G; go_frame)
                    | ((with_reducible refine at_alloc ?_); refine wpu_new G ?_; clear G; intro w G)
                    | ((with_reducible refine at_drew ?_); refine wpu_drew G ?_; clear G; intro w G)
                    | ((with_reducible refine at_load ?_); first
                      | (refine wpu_load G rfl rfl rfl rfl ?_; go_frame)
                      | (refine wpu_loadB G rfl rfl rfl (by rfl) ?_; go_frame)
                      | (refine wpu_loadS G rfl rfl rfl (by rfl) ?_; simp only [List.drop_succ_cons, List.drop_zero, List.take_succ_cons, List.take_zero]; go_frame))
                    | ((with_reducible refine at_store ?_); first
                      | (refine wpu_store G rfl rfl rfl rfl (by first | rfl | assumption | simp [*]) rfl ?_; clear G; intro w G; go_frame)
                      | (refine wpu_storeB G rfl rfl rfl rfl (by rfl) (by rfl) (by first | rfl | assumption | simp [*]) ?_; clear G; intro w G; go_frame)
                      | (refine wpu_storeS G rfl rfl rfl rfl (by rfl) (by rfl) (by first | rfl | assumption | simp [*]) ?_; clear G; intro w G; go_frame))
                    | ((with_reducible refine at_convert ?_); refine wpu_str G rfl rfl rfl rfl ?_; go_frame)
                    | ((with_reducible refine at_slice ?_); first
                      | (refine wpu_sliceLo rfl rfl rfl rfl (by first | rfl | omega) (by omega) (by omega) ?_; go_frame)
                      | (refine wpu_sliceLH rfl rfl rfl rfl rfl (by first | rfl | omega) (by first | rfl | omega) (by omega) (by omega) ?_; go_frame))
                    | fail)
                  have G2 := G.sub (blk b4 (msgC len) * (blk b5 [.map (some b)] * (blk b6 [.bool false] * (mapA b ((f.1, f.2.1) :: M) * R))))
                  clear G
                  go_roundw
                  case rel => exact ⟨j + 1, len, (f.1, f.2.1) :: M, j + 1, by go_num, by go_num, by omega, HN, by simp; omega, by omega, G2⟩
                  case measure => simp [intOf] <;> omega
              · have HB := hdead (by unfold stepR; rw [if_neg (by rw [HV.out]; decide), if_neg (by rw [H3.out]; decide), if_neg (fun e => absurd H6.out (by rw [e.2.1]; decide))])
                go_wp2_with (first
                  | ((with_reducible refine at_lookup ?_); refine wpu_strLookOk G rfl (by kernel_rfl) rfl rfl (by unfold maxLen; omega) rfl H6.out ?_; go_frame)
                  | ((with_reducible refine at_alloc ?_); refine wpu_new G ?_; clear G; intro w G)
                  | ((with_reducible refine at_drew ?_); refine wpu_drew G ?_; clear G; intro w G)
                  | ((with_reducible refine at_load ?_); first
                    | (refine wpu_load G rfl rfl rfl rfl ?_; go_frame)
                    | (refine wpu_loadB G rfl rfl rfl (by rfl) ?_; go_frame)
                    | (refine wpu_loadS G rfl rfl rfl (by rfl) ?_; simp only [List.drop_succ_cons, List.drop_zero, List.take_succ_cons, List.take_zero]; go_frame))
                  | ((with_reducible refine at_store ?_); first
                    | (refine wpu_store G rfl rfl rfl rfl (by first | rfl | assumption | simp [*]) rfl ?_; clear G; intro w G; go_frame)
                    | (refine wpu_storeB G rfl rfl rfl rfl (by rfl) (by rfl) (by first | rfl | assumption | simp [*]) ?_; clear G; intro w G; go_frame)
                    | (refine wpu_storeS G rfl rfl rfl rfl (by rfl) (by rfl) (by first | rfl | assumption | simp [*]) ?_; clear G; intro w G; go_frame))
                  | ((with_reducible refine at_convert ?_); refine wpu_str G rfl rfl rfl rfl ?_; go_frame)
                  | ((with_reducible refine at_slice ?_); first
                    | (refine wpu_sliceLo rfl rfl rfl rfl (by first | rfl | omega) (by omega) (by omega) ?_; go_frame)
                    | (refine wpu_sliceLH rfl rfl rfl rfl rfl (by first | rfl | omega) (by first | rfl | omega) (by omega) (by omega) ?_; go_frame))
                  | (go_at_call 28; refine Calls.mono (mustF _) ?_; rintro e w ⟨rfl, rfl⟩)
                  | fail)
                as_aux_lemma =>
                refine leaves_cons (f := 27) (args := #[.pointer (some ⟨b4, 0, none⟩), .pointer (some ⟨b5, 0, none⟩), .pointer (some ⟨b6, 0, none⟩)]) (by simp) (by simp [go_sem]) ?_
                refine (catchP (l := len) (m := .map (some b)) (k := false) (G.sub (blk b4 (msgC len) * (blk b5 [.map (some b)] * (blk b6 [.bool false] * R))))).mono ?_
                clear G
                rintro e u' w ⟨rfl, rfl, G⟩
                refine ⟨_, results3 rfl (by exact resB G rfl (by rfl)) (by exact resO G rfl rfl) (by exact resO G rfl rfl), ?_⟩
                show msgPost _ _ _ _ _
                rw [HB.out]
                exact ⟨rfl, G.right.right.right⟩
            · have y1 : ((j : Int) == (last : Int)) = false := by simp; omega
              have y2 : (j == last) = false := by simp; omega
              have y3 : decide ((j : Int) = (last : Int)) = false := by simp; omega
              have y4 : decide (j = last) = false := by simp; omega
              have HB := hdead (by unfold stepR; rw [if_neg (by rw [HV.out]; decide), if_neg (by rw [H3.out]; decide), if_neg (fun e => hjl e.1)])
              go_wp2_with (first
                | ((with_reducible refine at_lookup ?_); refine wpu_strLookOk G rfl (by kernel_rfl) rfl rfl (by unfold maxLen; omega) rfl H6.out ?_; go_frame)
                | ((with_reducible refine at_alloc ?_); refine wpu_new G ?_; clear G; intro w G)
                | ((with_reducible refine at_drew ?_); refine wpu_drew G ?_; clear G; intro w G)
                | ((with_reducible refine at_load ?_); first
                  | (refine wpu_load G rfl rfl rfl rfl ?_; go_frame)
                  | (refine wpu_loadB G rfl rfl rfl (by rfl) ?_; go_frame)
                  | (refine wpu_loadS G rfl rfl rfl (by rfl) ?_; simp only [List.drop_succ_cons, List.drop_zero, List.take_succ_cons, List.take_zero]; go_frame))
                | ((with_reducible refine at_store ?_); first
                  | (refine wpu_store G rfl rfl rfl rfl (by first | rfl | assumption | simp [*]) rfl ?_; clear G; intro w G; go_frame)
                  | (refine wpu_storeB G rfl rfl rfl rfl (by rfl) (by rfl) (by first | rfl | assumption | simp [*]) ?_; clear G; intro w G; go_frame)
                  | (refine wpu_storeS G rfl rfl rfl rfl (by rfl) (by rfl) (by first | rfl | assumption | simp [*]) ?_; clear G; intro w G; go_frame))
                | ((with_reducible refine at_convert ?_); refine wpu_str G rfl rfl rfl rfl ?_; go_frame)
                | ((with_reducible refine at_slice ?_); first
                  | (refine wpu_sliceLo rfl rfl rfl rfl (by first | rfl | omega) (by omega) (by omega) ?_; go_frame)
                  | (refine wpu_sliceLH rfl rfl rfl rfl rfl (by first | rfl | omega) (by first | rfl | omega) (by omega) (by omega) ?_; go_frame))
                | (go_at_call 28; refine Calls.mono (mustF _) ?_; rintro e w ⟨rfl, rfl⟩)
                | fail)
              as_aux_lemma =>
              refine leaves_cons (f := 27) (args := #[.pointer (some ⟨b4, 0, none⟩), .pointer (some ⟨b5, 0, none⟩), .pointer (some ⟨b6, 0, none⟩)]) (by simp) (by simp [go_sem]) ?_
              refine (catchP (l := len) (m := .map (some b)) (k := false) (G.sub (blk b4 (msgC len) * (blk b5 [.map (some b)] * (blk b6 [.bool false] * R))))).mono ?_
              clear G
              rintro e u' w ⟨rfl, rfl, G⟩
              refine ⟨_, results3 rfl (by exact resB G rfl (by rfl)) (by exact resO G rfl rfl) (by exact resO G rfl rfl), ?_⟩
              show msgPost _ _ _ _ _
              rw [HB.out]
              exact ⟨rfl, G.right.right.right⟩
        · have HB := hdead (by unfold stepR; rw [if_pos (by rw [H1.out, H2.out]; rfl)])
          go_wp2_with (first
            | ((with_reducible refine at_alloc ?_); refine wpu_new G ?_; clear G; intro w G)
            | ((with_reducible refine at_drew ?_); refine wpu_drew G ?_; clear G; intro w G)
            | ((with_reducible refine at_load ?_); first
              | (refine wpu_load G rfl rfl rfl rfl ?_; go_frame)
              | (refine wpu_loadB G rfl rfl rfl (by rfl) ?_; go_frame)
              | (refine wpu_loadS G rfl rfl rfl (by rfl) ?_; simp only [List.drop_succ_cons, List.drop_zero, List.take_succ_cons, List.take_zero]; go_frame))
            | ((with_reducible refine at_store ?_); first
              | (refine wpu_store G rfl rfl rfl rfl (by first | rfl | assumption | simp [*]) rfl ?_; clear G; intro w G; go_frame)
              | (refine wpu_storeB G rfl rfl rfl rfl (by rfl) (by rfl) (by first | rfl | assumption | simp [*]) ?_; clear G; intro w G; go_frame)
              | (refine wpu_storeS G rfl rfl rfl rfl (by rfl) (by rfl) (by first | rfl | assumption | simp [*]) ?_; clear G; intro w G; go_frame))
            | ((with_reducible refine at_convert ?_); refine wpu_str G rfl rfl rfl rfl ?_; go_frame)
            | ((with_reducible refine at_slice ?_); first
              | (refine wpu_sliceLo rfl rfl rfl rfl (by first | rfl | omega) (by omega) (by omega) ?_; go_frame)
              | (refine wpu_sliceLH rfl rfl rfl rfl rfl (by first | rfl | omega) (by first | rfl | omega) (by omega) (by omega) ?_; go_frame))
            | (go_at_call 28; refine Calls.mono (mustF _) ?_; rintro e w ⟨rfl, rfl⟩)
            | fail)
          as_aux_lemma =>
          refine leaves_cons (f := 27) (args := #[.pointer (some ⟨b4, 0, none⟩), .pointer (some ⟨b5, 0, none⟩), .pointer (some ⟨b6, 0, none⟩)]) (by simp) (by simp [go_sem]) ?_
          refine (catchP (l := len) (m := .map (some b)) (k := false) (G.sub (blk b4 (msgC len) * (blk b5 [.map (some b)] * (blk b6 [.bool false] * R))))).mono ?_
          clear G
          rintro e u' w ⟨rfl, rfl, G⟩
          refine ⟨_, results3 rfl (by exact resB G rfl (by rfl)) (by exact resO G rfl rfl) (by exact resO G rfl rfl), ?_⟩
          show msgPost _ _ _ _ _
          rw [HB.out]
          exact ⟨rfl, G.right.right.right⟩
    · have HB : Hid (runR N 0 L ⟨-1, [], 0⟩ = some ⟨len, M, last⟩) := Lib.hid (by have := HR.out; rwa [List.take_of_length_le (by omega)] at this)
      go_wp2_with fail
      refine wp_region_mix [0, 0, 1, 1, 2] (Own B _) (by kernel_rfl) (by kernel_rfl) (own_drew G) ?_
      refine mix_calm 2 ((own_drew G)) (by rfl) (by rfl) ?_
      intro ι W hne hW
      dsimp only [List.take, List.drop]
      repeat (first | ((with_reducible refine atq_load ?_); first | (refine wpq_load hW rfl rfl rfl rfl ?_; go_frame) | (refine wpq_loadB hW rfl rfl rfl (by rfl) ?_; go_frame) | (refine wpq_loadS hW rfl rfl rfl (by rfl) ?_; simp only [List.drop_succ_cons, List.drop_zero, List.take_succ_cons, List.take_zero]; go_frame)) | (fail) | go_big_quiet_step (fail))
      refine wpQuiet_nil ?_
      clear  hW hne W ι
      refine mix_loud rfl (fun K hK => ?_)
      refine wpk_storeB (own_drew G) rfl rfl rfl (by rfl) (by rfl) (by rfl) ?_
      clear G; intro w G
      refine hK _ _ ⟨G, ?_⟩
      clear hK
      try go_frame
      refine mix_loud rfl (fun K hK => ?_)
      refine wpk_store G rfl rfl rfl rfl (by rfl) ?_
      clear G; intro w G
      refine hK _ _ ⟨G, ?_⟩
      clear hK
      try go_frame
      refine mix_last rfl (fun K hK => ?_)
      refine wpk_store G rfl rfl rfl rfl (by rfl) ?_
      clear G; intro w G
      refine hK _ _ ?_
      clear hK
      try go_frame
      refine mix_nil ?_
      go_wp2_with fail
      refine leaves_cons (f := 27) (args := #[.pointer (some ⟨b4, 0, none⟩), .pointer (some ⟨b5, 0, none⟩), .pointer (some ⟨b6, 0, none⟩)]) (by simp) (by simp [go_sem]) ?_
      refine (catchT _).mono ?_
      rintro e u' w ⟨rfl, rfl, rfl⟩
      refine ⟨_, results3 rfl (by exact resB G rfl (by rfl)) (by exact resO G rfl rfl) (by exact resO G rfl rfl), ?_⟩
      show msgPost _ _ _ _ _
      rw [HB.out]
      exact ⟨_, rfl, G.right.right.right⟩
end Go.Proofs.YtnjldofiogbolaaDoor
