
/-
  A scheduler: where a stream stands.
-/
import Derived.Test.YtbekaeahedkeoaaSchA
namespace Go.Proofs.Ytbekaeahedkeoaa
open Go.RowKit Go.Sl

section
variable {B w : World} {A R : Assn} {a : Nat} {s : Sc}

theorem wideC {n : Int} {A : Assn} (G : Own B A w) : Calls Try.prog 24 #[.int .i64 n] w fun e w' => e = .returned (.bool (decide (-2147483647 ≤ n) && decide (n ≤ 2147483647))) ∧ Own B A w' := by
  go_enter Try.func24, Try.ntmps24
  by_cases h1 : -2147483647 ≤ n
  all_goals
    go_wp2_with fail
    go_ret
    refine ⟨?_, G⟩
    first
      | (simp [h1]; done)
      | (have h2 : decide (-2147483647 ≤ n) = false := by simp; omega
         rw [h2]
         simp <;> omega)

theorem placeI_none {id : Int} {q : List Fl} (h : ∀ x ∈ q, x.id ≠ id) : placeI id q = -1 := by
  unfold placeI
  rw [place_none.2 h]
theorem placeI_at {id : Int} {l1 l2 : List Fl} {f : Fl} (h : f.id = id) (h1 : ∀ x ∈ l1, x.id ≠ id) : placeI id (l1 ++ f :: l2) = l1.length := by
  unfold placeI
  rw [place_at h h1]

set_option maxRecDepth 100000 in
theorem idxC {vq : Value} {L : List (Nat × Fl)} {id : Int} {c : Nat} (h : Own B (blk c [.int .i64 id] * (sl 1 vq L.length (ptrs L) * (flA L * R))) w) :
    Calls Try.prog 25 #[vq, .func (.func 26) #[] #[.pointer (some ⟨c, 0, none⟩)]] w fun e w' =>
      e = .returned (.int .i64 (placeI id (L.map Prod.snd))) ∧ Own B (blk c [.int .i64 id] * (sl 1 vq L.length (ptrs L) * (flA L * R))) w' := by
  obtain ⟨qo, qc, rfl, i1, i2⟩ := h.hdr vq
  unfold maxLen at i2
  obtain ⟨r, hr⟩ : ∃ r, placeI id (L.map Prod.snd) = r := ⟨_, rfl⟩
  rw [hr]
  have HR := Lib.hid hr
  clear hr
  go_enter Try.func25, Try.ntmps25
  go_wp2_with fail
  go_loopw [5, 8] (fun _ i wr => ∃ L1 L2 : List (Nat × Fl), L = L1 ++ L2 ∧ i = .int .i64 L1.length ∧ (∀ x ∈ L1, x.2.id ≠ id) ∧ Own B (blk c [.int .i64 id] * (sl 1 (.slice qo L.length qc) L.length (ptrs L) * (flA L * R))) wr) (fun _ i _ => L.length - (intOf i).toNat)
  case atStart => exact ⟨[], L, rfl, rfl, by simp, h⟩
  case round =>
    clear h
    obtain ⟨L1, L2, hL, rfl, hne, G⟩ := hrel
    cases L2 with
    | nil =>
      have hlen : L1.length = L.length := by rw [hL]; simp
      go_wp2_with fail
      go_ret
      refine ⟨?_, G⟩
      have e : r = -1 := by
        rw [← HR.out, placeI_none]
        intro x hx
        obtain ⟨p, hp, rfl⟩ := List.mem_map.1 hx
        rw [hL] at hp
        exact hne p (by simpa using hp)
      rw [e]
      rfl
    | cons p L2 =>
      have hlen : L1.length < L.length := by rw [hL]; simp
      have hp : (ptrs L)[L1.length]? = some (.pointer (some ⟨p.1, 0, none⟩)) := by rw [hL]; simp [ptrs]
      have hf : flA L = blk p.1 p.2.cs * flA (L1 ++ L2) := by rw [hL, flA_at]
      have HP := Lib.hid hp
      have HL := Lib.hid hL
      have HF := Lib.hid hf
      clear hL hp
      rw [hf] at G
      clear hf
      obtain ⟨ad, rfl⟩ := rd_some (G.rd (.slice qo L.length qc) _ G) (by omega)
      simp only [Fl.cs] at G
      go_wp2_with (first
        | ((with_reducible refine at_alloc ?_); refine wpu_new G ?_; clear G; intro w G)
        | ((with_reducible refine at_drew ?_); refine wpu_drew G ?_; clear G; intro w G)
        | ((with_reducible refine at_load ?_); first
          | (refine wpu_load G rfl rfl rfl rfl ?_; go_frame)
          | (refine wpu_loadB G rfl rfl rfl (by rfl) ?_; go_frame)
          | (refine wpu_loadS G rfl rfl rfl (by rfl) ?_; simp only [List.drop_succ_cons, List.drop_zero, List.take_succ_cons, List.take_zero]; go_frame))
        | ((with_reducible refine at_store ?_); first
          | (refine wpu_store G rfl rfl rfl rfl (by first | rfl | assumption | simp [*]) rfl ?_; clear G; intro w G; go_frame)
          | (refine wpu_storeB G rfl rfl rfl rfl (by rfl) (by rfl) (by first | rfl | assumption | simp [*]) ?_; clear G; intro w G; go_frame)
          | (refine wpu_storeS G rfl rfl rfl rfl (by rfl) (by rfl) (by first | rfl | assumption | simp [*]) ?_; clear G; intro w G; go_frame))
        | ((with_reducible refine at_convert ?_); refine wpu_str G rfl rfl rfl rfl ?_; go_frame)
        | ((with_reducible refine at_slice ?_); first
          | (refine wpu_sliceLo rfl rfl rfl rfl (by first | rfl | omega) (by omega) (by omega) ?_; go_frame)
          | (refine wpu_sliceLH rfl rfl rfl rfl rfl (by first | rfl | omega) (by first | rfl | omega) (by omega) (by omega) ?_; go_frame))
        | ((with_reducible refine at_load ?_); refine wpu_loadC (G.rd (.slice (some ad) L.length qc) _ G) HP.out rfl rfl rfl ?_; go_frame)
        | go_in)
      by_cases he : p.2.id = id
      · have hd1 : decide (p.2.id = id) = true := by simp [he]
        have hd2 : (p.2.id == id) = true := by simp [he]
        have HE := Lib.hid he
        clear he
        refine wp_region_calm (C := Own _ _) (by kernel_rfl) (by kernel_rfl) (own_drew G) ?_
        intro ι W hne hW hs
        repeat (first | ((with_reducible refine atq_load ?_); first | (refine wpq_load hW rfl rfl rfl rfl ?_; go_frame) | (refine wpq_loadB hW rfl rfl rfl (by rfl) ?_; go_frame) | (refine wpq_loadS hW rfl rfl rfl (by rfl) ?_; simp only [List.drop_succ_cons, List.drop_zero, List.take_succ_cons, List.take_zero]; go_frame)) | (fail) | go_big_quiet_step (fail))
        refine wpQuiet_nil ?_
        intro i
        have g := hW i
        generalize W i = wg at g ⊢
        clear  hs hW hne
        have G := g
        clear g
        go_wp2_with fail
        go_ret
        rw [← HR.out]
        refine ⟨?_, ?_⟩
        · rw [HL.out]
          simp only [List.map_append, List.map_cons]
          rw [placeI_at HE.out]
          · simp
          · intro x hx
            obtain ⟨y, hy, rfl⟩ := List.mem_map.1 hx
            exact hne y hy
        · rw [HF.out]
          exact G
      · have hd1 : decide (p.2.id = id) = false := by simp [he]
        have hd2 : (p.2.id == id) = false := by simp [he]
        have HE := Lib.hid he
        clear he
        refine wp_region_calm (C := Own _ _) (by kernel_rfl) (by kernel_rfl) (own_drew G) ?_
        intro ι W hne hW hs
        repeat (first | ((with_reducible refine atq_load ?_); first | (refine wpq_load hW rfl rfl rfl rfl ?_; go_frame) | (refine wpq_loadB hW rfl rfl rfl (by rfl) ?_; go_frame) | (refine wpq_loadS hW rfl rfl rfl (by rfl) ?_; simp only [List.drop_succ_cons, List.drop_zero, List.take_succ_cons, List.take_zero]; go_frame)) | (fail) | go_big_quiet_step (fail))
        refine wpQuiet_nil ?_
        intro i
        have g := hW i
        generalize W i = wg at g ⊢
        clear  hs hW hne
        have G := g
        clear g
        go_wp2_with fail
        go_roundw
        case rel =>
          refine ⟨L1 ++ [p], L2, by rw [HL.out]; simp, by simp, ?_, ?_⟩
          · intro x hx
            rcases List.mem_append.1 hx with hx | hx
            · exact hne x hx
            · rw [List.mem_singleton.1 hx]; exact HE.out
          · rw [HF.out]; exact G
        case measure => simp [intOf] <;> omega

set_option maxRecDepth 100000 in
theorem atC {vc vq : Value} {L : List (Nat × Fl)} {C : List (Value × List UInt8)} {id : Int} (G : Own B (blk a (scCs vc vq s) * (sl 1 vc C.length (C.map Prod.fst) * (sl 1 vq L.length (ptrs L) * (ctA C * (flA L * R))))) w) :
    Calls Try.prog 22 #[.pointer (some ⟨a, 0, none⟩), .int .i64 id] w fun e w' => e = .returned (.int .i64 (placeI id (L.map Prod.snd))) ∧
      Own B (blk a (scCs vc vq s) * (sl 1 vc C.length (C.map Prod.fst) * (sl 1 vq L.length (ptrs L) * (ctA C * (flA L * R))))) w' := by
  have hmf : ∀ (fn : Fn) (first cap : Array Value) (w : World), (Instr.makeFunc fn first cap).run Try.prog w = .ok (.func fn first cap) w := fun _ _ _ _ => rfl
  simp only [scCs] at G
  go_enter Try.func22, Try.ntmps22
  go_wp2_with (first
    | ((with_reducible refine at_alloc ?_); refine wpu_new G ?_; clear G; intro w G)
    | ((with_reducible refine at_drew ?_); refine wpu_drew G ?_; clear G; intro w G)
    | ((with_reducible refine at_load ?_); first
      | (refine wpu_load G rfl rfl rfl rfl ?_; go_frame)
      | (refine wpu_loadB G rfl rfl rfl (by rfl) ?_; go_frame)
      | (refine wpu_loadS G rfl rfl rfl (by rfl) ?_; simp only [List.drop_succ_cons, List.drop_zero, List.take_succ_cons, List.take_zero]; go_frame))
    | ((with_reducible refine at_store ?_); first
      | (refine wpu_store G rfl rfl rfl rfl (by first | rfl | assumption | simp [*]) rfl ?_; clear G; intro w G; go_frame)
      | (refine wpu_storeB G rfl rfl rfl rfl (by rfl) (by rfl) (by first | rfl | assumption | simp [*]) ?_; clear G; intro w G; go_frame)
      | (refine wpu_storeS G rfl rfl rfl rfl (by rfl) (by rfl) (by first | rfl | assumption | simp [*]) ?_; clear G; intro w G; go_frame))
    | ((with_reducible refine at_convert ?_); refine wpu_str G rfl rfl rfl rfl ?_; go_frame)
    | ((with_reducible refine at_slice ?_); first
      | (refine wpu_sliceLo rfl rfl rfl rfl (by first | rfl | omega) (by omega) (by omega) ?_; go_frame)
      | (refine wpu_sliceLH rfl rfl rfl rfl rfl (by first | rfl | omega) (by first | rfl | omega) (by omega) (by omega) ?_; go_frame))
    | fail)
  refine Calls.mono (idxC (vq := vq) (L := L) (id := id) (R := blk a (scCs vc vq s) * (sl 1 vc C.length (C.map Prod.fst) * (ctA C * R))) (G.eq (by simp only [scCs]; ac_rfl))) ?_
  clear G; rintro e w ⟨rfl, G⟩
  go_wp2_with fail
  go_ret
  refine ⟨rfl, G.right.eq ?_⟩
  ac_rfl
end
end Go.Proofs.Ytbekaeahedkeoaa
