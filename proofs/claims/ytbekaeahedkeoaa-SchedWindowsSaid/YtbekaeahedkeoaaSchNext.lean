
/-
  A scheduler: what is sent next.
-/
import Derived.Test.YtbekaeahedkeoaaSchOut
import Derived.WalkMore
namespace Go.Proofs.Ytbekaeahedkeoaa
open Go.RowKit Go.Sl

@[go_sem high] theorem min_five (ats : Array TypeId) (ty : TypeId) (k k1 k2 k3 k4 : IntKind) (x y z u v : Int) : Builtin.min_ ats ty #[.int k x, .int k1 y, .int k2 z, .int k3 u, .int k4 v] = pure (.int k (min (min (min (min x y) z) u) v)) := by
  have h : ∀ (i j : IntKind) (x y : Int), Builtin.min2 (.int i x) (.int j y) = pure (.int i (min x y)) := fun i j x y => by
    have := min_two ats ty i j x y
    simpa [Builtin.min_] using this
  simp [Builtin.min_, h]



/-- what Next answers -/
def pieceV : Option (Int × Int × Bool) → Value
  | none => .tuple #[.agg #[.slice none 0 0, .int .i64 0, .int .i64 0, .bool false], .bool false]
  | some (id, n, e) => .tuple #[.agg #[.slice none 0 0, .int .i64 id, .int .i64 n, .bool e], .bool true]

@[go_sem] theorem pieceV_none : pieceV none = .tuple #[.agg #[.slice none 0 0, .int .i64 0, .int .i64 0, .bool false], .bool false] := rfl
@[go_sem] theorem pieceV_some (id n : Int) (e : Bool) : pieceV (some (id, n, e)) = .tuple #[.agg #[.slice none 0 0, .int .i64 id, .int .i64 n, .bool e], .bool true] := rfl

theorem ptrs_one (L : List (Nat × Fl)) : ∀ y ∈ ptrs L, y.oneCell' = true := by
  intro y hy
  obtain ⟨p, _, rfl⟩ := List.mem_map.1 hy
  rfl

theorem take_mid {α : Type} (l1 l2 : List α) (x : α) : (l1 ++ x :: l2).take l1.length ++ (l1 ++ x :: l2).drop (l1.length + 1) = l1 ++ l2 := by
  rw [List.take_left' rfl, List.drop_append]
  simp

theorem next_low {s : Sc} {c : Int} (h : c < 9) : s.next c = (none, s) := by unfold Sc.next; rw [if_pos h]
theorem next_no {s : Sc} {c : Int} (h : ∀ f ∈ s.q, f.ready s.win = false) : s.next c = (none, s) := by
  unfold Sc.next
  rw [pick_none.2 h]
  split <;> rfl
theorem next_few {s : Sc} {c : Int} {l1 l2 : List Fl} {f : Fl} (hq : s.q = l1 ++ f :: l2) (h1 : ∀ x ∈ l1, x.ready s.win = false) (h2 : f.ready s.win = true) (h3 : 0 < f.wait) (h4 : s.amount f c < 1) : s.next c = (none, s) := by
  unfold Sc.next
  rw [pick_some.2 ⟨hq, h1, h2⟩]
  simp only [if_pos (show 0 < f.wait ∧ s.amount f c < 1 from ⟨h3, h4⟩)]
  split <;> rfl
theorem next_yes {s : Sc} {c : Int} {l1 l2 : List Fl} {f : Fl} {n : Int} (hc : 9 ≤ c) (hq : s.q = l1 ++ f :: l2) (h1 : ∀ x ∈ l1, x.ready s.win = false) (h2 : f.ready s.win = true) (h4 : s.amount f c = n) (h3 : ¬ (0 < f.wait ∧ n < 1)) :
    s.next c = (some (f.id, n, f.last n), { s with q := l1 ++ l2 ++ (if f.last n then [] else [f.less n]), win := s.win - n }) := by
  subst h4
  unfold Sc.next
  rw [pick_some.2 ⟨hq, h1, h2⟩, if_neg (by omega)]
  simp only [if_neg h3]

theorem next_cont {s : Sc} {c : Int} {l1 l2 l : List Fl} {f f' : Fl} {n : Int} (hc : 9 ≤ c) (hq : s.q = l1 ++ f :: l2) (h1 : ∀ x ∈ l1, x.ready s.win = false) (h2 : f.ready s.win = true) (h4 : s.amount f c = n) (h3 : ¬ (0 < f.wait ∧ n < 1)) (he : f.last n = false) (hl : l = l1 ++ l2) (hf : f' = f.less n) :
    s.next c = (some (f.id, n, false), { s with q := l ++ [f'], win := s.win - n }) := by
  rw [next_yes hc hq h1 h2 h4 h3, he, hl, hf]
  rfl
theorem next_end {s : Sc} {c : Int} {l1 l2 l : List Fl} {f : Fl} {n : Int} (hc : 9 ≤ c) (hq : s.q = l1 ++ f :: l2) (h1 : ∀ x ∈ l1, x.ready s.win = false) (h2 : f.ready s.win = true) (h4 : s.amount f c = n) (h3 : ¬ (0 < f.wait ∧ n < 1)) (he : f.last n = true) (hl : l = l1 ++ l2) :
    s.next c = (some (f.id, n, true), { s with q := l, win := s.win - n }) := by
  rw [next_yes hc hq h1 h2 h4 h3, he, hl]
  simp

section
variable {B w : World} {A R : Assn} {a : Nat} {s : Sc}

theorem send_end {vc vq : Value} {M : List (Nat × Fl)} {cs ds : List Value} {b : Nat} {Y1 Y2 Z : Assn} (s' : Sc) (G : Own B (sl 1 vq M.length (ptrs M) * (Y1 * (Y2 * (blk a cs * (sl 1 vc 0 [] * (Z * (ctA [] * (blk b ds * flA M * R)))))))) w)
    (hc : cs = scCs vc vq s') (hM : M.map Prod.snd = s'.q) (hctl : s'.ctl = []) : Own B (schA a s' * R) w :=
  sch_close (vc := vc) (vq := vq) (L := M) (C := []) s' (G.eq (A' := blk a cs * (sl 1 vc 0 [] * (sl 1 vq M.length (ptrs M) * (ctA [] * (flA M * R)))) * (Y1 * (Y2 * (Z * blk b ds)))) (by ac_rfl)).drop hc hM (by simp [hctl])
theorem send_cont {vc vq : Value} {M : List (Nat × Fl)} {cs ds : List Value} {b : Nat} {Y1 Y2 Z : Assn} (s' : Sc) (f' : Fl) (G : Own B (sl 1 vq (M.length + 1) (ptrs M ++ [.pointer (some ⟨b, 0, none⟩)]) * (Y1 * (Y2 * (blk a cs * (sl 1 vc 0 [] * (Z * (ctA [] * (blk b ds * flA M * R)))))))) w)
    (hc : cs = scCs vc vq s') (hd : ds = f'.cs) (hM : M.map Prod.snd ++ [f'] = s'.q) (hctl : s'.ctl = []) : Own B (schA a s' * R) w := by
  subst hd
  refine sch_close (vc := vc) (vq := vq) (L := M ++ [(b, f')]) (C := []) s' (Own.eq (A := blk a cs * (sl 1 vc 0 [] * (sl 1 vq (M.length + 1) (ptrs M ++ [.pointer (some ⟨b, 0, none⟩)]) * (ctA [] * (blk b f'.cs * flA M * R))))) (G.eq (A' := blk a cs * (sl 1 vc 0 [] * (sl 1 vq (M.length + 1) (ptrs M ++ [.pointer (some ⟨b, 0, none⟩)]) * (ctA [] * (blk b f'.cs * flA M * R)))) * (Y1 * (Y2 * Z))) (by ac_rfl)).drop ?_) hc (by simp [hM]) (by simp [hctl])
  rw [flA_app, ptrs_app, List.length_append]
  show _ = blk a cs * (sl 1 vc 0 [] * (sl 1 vq (M.length + 1) (ptrs M ++ [.pointer (some ⟨b, 0, none⟩)]) * (ctA [] * (flA M * (blk b f'.cs * emp) * R))))
  rw [star_emp]
  ac_rfl

set_option maxHeartbeats 4000000 in
set_option maxRecDepth 100000 in
theorem nextD {c : Int} (h : Own B (schA a s * R) w) (hok : s.Ok) (hct : s.ctl = []) (c1 : -9223372036854775808 ≤ c) (c2 : c ≤ 9223372036854775807) (hl : s.q.length ≤ 1000000) :
    Calls Try.prog 12 #[.pointer (some ⟨a, 0, none⟩), .int .i64 c] w fun e w' => ∃ p s', s.next c = (p, s') ∧ e = .returned (pieceV p) ∧ Own B (schA a s' * R) w' := by
  obtain ⟨vc, vq, L, C, hL, hC, G⟩ := sch_open h
  have hC0 : C = [] := by rw [hct] at hC; simpa using hC
  subst hC0
  obtain ⟨co, cc, rfl, i3, i4⟩ := G.hdr vc
  obtain ⟨qo, qc, rfl, i1, i2⟩ := G.hdr vq
  unfold maxLen at i2 i4
  simp only [scCs, List.length_nil, List.map_nil] at G
  have e1 : L.length ≤ 1000000 := by rw [← hL] at hl; simpa using hl
  have HL0 := Lib.hid hL
  clear hL hl
  by_cases hc9 : c < 9
  · as_aux_lemma =>
    go_enter Try.func12, Try.ntmps12
    go_wp2_with (first
      | ((with_reducible refine at_alloc ?_); refine wpu_new G ?_; clear G; intro w G)
      | ((with_reducible refine at_drew ?_); refine wpu_drew G ?_; clear G; intro w G)
      | ((with_reducible refine at_load ?_); first
        | (refine wpu_load G rfl rfl rfl rfl ?_; go_frame)
        | (refine wpu_loadB G rfl rfl rfl (by rfl) ?_; go_frame)
        | (refine wpu_loadS G rfl rfl rfl (by rfl) ?_; simp only [List.drop_succ_cons, List.drop_zero, List.take_succ_cons, List.take_zero]; go_frame))
      | ((with_reducible refine at_store ?_); first
        | (refine wpu_store G rfl rfl rfl rfl (by first | rfl | assumption | simp [*]) rfl ?_; clear G; intro w G; go_frame)
        | (refine wpu_storeB G rfl rfl rfl rfl (by rfl) (by rfl) (by first | rfl | assumption | simp [*]) ?_; clear G; intro w G; go_frame)
        | (refine wpu_storeS G rfl rfl rfl rfl (by rfl) (by rfl) (by first | rfl | assumption | simp [*]) ?_; clear G; intro w G; go_frame))
      | ((with_reducible refine at_convert ?_); refine wpu_str G rfl rfl rfl rfl ?_; go_frame)
      | ((with_reducible refine at_slice ?_); first
        | (refine wpu_sliceLo rfl rfl rfl rfl (by first | rfl | omega) (by omega) (by omega) ?_; go_frame)
        | (refine wpu_sliceLH rfl rfl rfl rfl rfl (by first | rfl | omega) (by first | rfl | omega) (by omega) (by omega) ?_; go_frame))
      | fail)
    refine wpu_newC G ?_
    clear G; intro w G
    go_step3
    go_wp2_with (first
      | ((with_reducible refine at_alloc ?_); refine wpu_new G ?_; clear G; intro w G)
      | ((with_reducible refine at_drew ?_); refine wpu_drew G ?_; clear G; intro w G)
      | ((with_reducible refine at_load ?_); first
        | (refine wpu_load G rfl rfl rfl rfl ?_; go_frame)
        | (refine wpu_loadB G rfl rfl rfl (by rfl) ?_; go_frame)
        | (refine wpu_loadS G rfl rfl rfl (by rfl) ?_; simp only [List.drop_succ_cons, List.drop_zero, List.take_succ_cons, List.take_zero]; go_frame))
      | ((with_reducible refine at_store ?_); first
        | (refine wpu_store G rfl rfl rfl rfl (by first | rfl | assumption | simp [*]) rfl ?_; clear G; intro w G; go_frame)
        | (refine wpu_storeB G rfl rfl rfl rfl (by rfl) (by rfl) (by first | rfl | assumption | simp [*]) ?_; clear G; intro w G; go_frame)
        | (refine wpu_storeS G rfl rfl rfl rfl (by rfl) (by rfl) (by first | rfl | assumption | simp [*]) ?_; clear G; intro w G; go_frame))
      | ((with_reducible refine at_convert ?_); refine wpu_str G rfl rfl rfl rfl ?_; go_frame)
      | ((with_reducible refine at_slice ?_); first
        | (refine wpu_sliceLo rfl rfl rfl rfl (by first | rfl | omega) (by omega) (by omega) ?_; go_frame)
        | (refine wpu_sliceLH rfl rfl rfl rfl rfl (by first | rfl | omega) (by first | rfl | omega) (by omega) (by omega) ?_; go_frame))
      | fail)
    rw [Exit.noGoto_ret]
    try simp only [Exit.inBlock, Exit.then]
    refine bodyPost_ret (results2 rfl (by first | exact resT rfl | exact resB G rfl (by rfl) | exact resO G rfl rfl) (by first | exact resT rfl | exact resB G rfl (by rfl) | exact resO G rfl rfl)) rfl ?_
    exact ⟨none, s, next_low hc9, rfl, sch_close (vc := .slice co 0 cc) (vq := .slice qo L.length qc) (L := L) (C := []) s G.right rfl HL0.out hC⟩
  · go_enter Try.func12, Try.ntmps12
    go_wp2_with (first
      | ((with_reducible refine at_alloc ?_); refine wpu_new G ?_; clear G; intro w G)
      | ((with_reducible refine at_drew ?_); refine wpu_drew G ?_; clear G; intro w G)
      | ((with_reducible refine at_load ?_); first
        | (refine wpu_load G rfl rfl rfl rfl ?_; go_frame)
        | (refine wpu_loadB G rfl rfl rfl (by rfl) ?_; go_frame)
        | (refine wpu_loadS G rfl rfl rfl (by rfl) ?_; simp only [List.drop_succ_cons, List.drop_zero, List.take_succ_cons, List.take_zero]; go_frame))
      | ((with_reducible refine at_store ?_); first
        | (refine wpu_store G rfl rfl rfl rfl (by first | rfl | assumption | simp [*]) rfl ?_; clear G; intro w G; go_frame)
        | (refine wpu_storeB G rfl rfl rfl rfl (by rfl) (by rfl) (by first | rfl | assumption | simp [*]) ?_; clear G; intro w G; go_frame)
        | (refine wpu_storeS G rfl rfl rfl rfl (by rfl) (by rfl) (by first | rfl | assumption | simp [*]) ?_; clear G; intro w G; go_frame))
      | ((with_reducible refine at_convert ?_); refine wpu_str G rfl rfl rfl rfl ?_; go_frame)
      | ((with_reducible refine at_slice ?_); first
        | (refine wpu_sliceLo rfl rfl rfl rfl (by first | rfl | omega) (by omega) (by omega) ?_; go_frame)
        | (refine wpu_sliceLH rfl rfl rfl rfl rfl (by first | rfl | omega) (by first | rfl | omega) (by omega) (by omega) ?_; go_frame))
      | fail)
    refine wpu_newC G ?_
    generalize w.heap.size = rb
    clear G; intro w G
    go_step3
    go_wp2_with (first
      | ((with_reducible refine at_alloc ?_); refine wpu_new G ?_; clear G; intro w G)
      | ((with_reducible refine at_drew ?_); refine wpu_drew G ?_; clear G; intro w G)
      | ((with_reducible refine at_load ?_); first
        | (refine wpu_load G rfl rfl rfl rfl ?_; go_frame)
        | (refine wpu_loadB G rfl rfl rfl (by rfl) ?_; go_frame)
        | (refine wpu_loadS G rfl rfl rfl (by rfl) ?_; simp only [List.drop_succ_cons, List.drop_zero, List.take_succ_cons, List.take_zero]; go_frame))
      | ((with_reducible refine at_store ?_); first
        | (refine wpu_store G rfl rfl rfl rfl (by first | rfl | assumption | simp [*]) rfl ?_; clear G; intro w G; go_frame)
        | (refine wpu_storeB G rfl rfl rfl rfl (by rfl) (by rfl) (by first | rfl | assumption | simp [*]) ?_; clear G; intro w G; go_frame)
        | (refine wpu_storeS G rfl rfl rfl rfl (by rfl) (by rfl) (by first | rfl | assumption | simp [*]) ?_; clear G; intro w G; go_frame))
      | ((with_reducible refine at_convert ?_); refine wpu_str G rfl rfl rfl rfl ?_; go_frame)
      | ((with_reducible refine at_slice ?_); first
        | (refine wpu_sliceLo rfl rfl rfl rfl (by first | rfl | omega) (by omega) (by omega) ?_; go_frame)
        | (refine wpu_sliceLH rfl rfl rfl rfl rfl (by first | rfl | omega) (by first | rfl | omega) (by omega) (by omega) ?_; go_frame))
      | fail)
    go_step3
    go_wp2_with (first
      | ((with_reducible refine at_alloc ?_); refine wpu_new G ?_; clear G; intro w G)
      | ((with_reducible refine at_drew ?_); refine wpu_drew G ?_; clear G; intro w G)
      | ((with_reducible refine at_load ?_); first
        | (refine wpu_load G rfl rfl rfl rfl ?_; go_frame)
        | (refine wpu_loadB G rfl rfl rfl (by rfl) ?_; go_frame)
        | (refine wpu_loadS G rfl rfl rfl (by rfl) ?_; simp only [List.drop_succ_cons, List.drop_zero, List.take_succ_cons, List.take_zero]; go_frame))
      | ((with_reducible refine at_store ?_); first
        | (refine wpu_store G rfl rfl rfl rfl (by first | rfl | assumption | simp [*]) rfl ?_; clear G; intro w G; go_frame)
        | (refine wpu_storeB G rfl rfl rfl rfl (by rfl) (by rfl) (by first | rfl | assumption | simp [*]) ?_; clear G; intro w G; go_frame)
        | (refine wpu_storeS G rfl rfl rfl rfl (by rfl) (by rfl) (by first | rfl | assumption | simp [*]) ?_; clear G; intro w G; go_frame))
      | ((with_reducible refine at_convert ?_); refine wpu_str G rfl rfl rfl rfl ?_; go_frame)
      | ((with_reducible refine at_slice ?_); first
        | (refine wpu_sliceLo rfl rfl rfl rfl (by first | rfl | omega) (by omega) (by omega) ?_; go_frame)
        | (refine wpu_sliceLH rfl rfl rfl rfl rfl (by first | rfl | omega) (by first | rfl | omega) (by omega) (by omega) ?_; go_frame))
      | fail)
    go_loopw [7, 8, 48] (fun f p i wr => ∃ L1 L2 : List (Nat × Fl), f = .pointer none ∧ p = .int .i64 0 ∧ L = L1 ++ L2 ∧ i = .int .i64 L1.length ∧ (∀ x ∈ L1, x.2.ready s.win = false) ∧ Own B (blk rb [.slice none 0 0, .int .i64 0, .int .i64 0, .bool false] * (blk a [.slice co 0 cc, .slice qo L.length qc, .int .i64 s.win, .int .i64 s.frame] * (sl 1 (.slice co 0 cc) 0 [] * (sl 1 (.slice qo L.length qc) L.length (ptrs L) * (ctA [] * (flA L * R)))))) wr) (fun _ _ i _ => L.length - (intOf i).toNat)
    case atStart => exact ⟨[], L, rfl, rfl, rfl, rfl, by simp, G⟩
    case round =>
      clear G
      obtain ⟨L1, L2, rfl, rfl, hLL, rfl, hno, G⟩ := hrel
      cases L2 with
      | nil =>
        as_aux_lemma =>
        have hlen : L1.length = L.length := by rw [hLL]; simp
        have HLL := Lib.hid hLL
        clear hLL
        go_wp2_with (first
          | ((with_reducible refine at_alloc ?_); refine wpu_new G ?_; clear G; intro w G)
          | ((with_reducible refine at_drew ?_); refine wpu_drew G ?_; clear G; intro w G)
          | ((with_reducible refine at_load ?_); first
            | (refine wpu_load G rfl rfl rfl rfl ?_; go_frame)
            | (refine wpu_loadB G rfl rfl rfl (by rfl) ?_; go_frame)
            | (refine wpu_loadS G rfl rfl rfl (by rfl) ?_; simp only [List.drop_succ_cons, List.drop_zero, List.take_succ_cons, List.take_zero]; go_frame))
          | ((with_reducible refine at_store ?_); first
            | (refine wpu_store G rfl rfl rfl rfl (by first | rfl | assumption | simp [*]) rfl ?_; clear G; intro w G; go_frame)
            | (refine wpu_storeB G rfl rfl rfl rfl (by rfl) (by rfl) (by first | rfl | assumption | simp [*]) ?_; clear G; intro w G; go_frame)
            | (refine wpu_storeS G rfl rfl rfl rfl (by rfl) (by rfl) (by first | rfl | assumption | simp [*]) ?_; clear G; intro w G; go_frame))
          | ((with_reducible refine at_convert ?_); refine wpu_str G rfl rfl rfl rfl ?_; go_frame)
          | ((with_reducible refine at_slice ?_); first
            | (refine wpu_sliceLo rfl rfl rfl rfl (by first | rfl | omega) (by omega) (by omega) ?_; go_frame)
            | (refine wpu_sliceLH rfl rfl rfl rfl rfl (by first | rfl | omega) (by first | rfl | omega) (by omega) (by omega) ?_; go_frame))
          | fail)
        rw [Exit.noGoto_ret]
        try simp only [Exit.inBlock, Exit.then]
        refine bodyPost_ret (results2 rfl (by first | exact resT rfl | exact resB G rfl (by rfl) | exact resO G rfl rfl) (by first | exact resT rfl | exact resB G rfl (by rfl) | exact resO G rfl rfl)) rfl ?_
        refine ⟨none, s, next_no ?_, rfl, sch_close (vc := .slice co 0 cc) (vq := .slice qo L.length qc) (L := L) (C := []) s G.right rfl HL0.out hC⟩
        intro f hf
        rw [← HL0.out, HLL.out] at hf
        obtain ⟨p, hp, rfl⟩ := List.mem_map.1 hf
        exact hno p (by simpa using hp)
      | cons p L2 =>
        obtain ⟨b, f⟩ := p
        obtain ⟨fi, fw, fo, ff⟩ := f
        have hlen : L1.length < L.length := by rw [hLL]; simp
        obtain ⟨ad, rfl⟩ := rd_some (G.rd (.slice qo L.length qc) _ G) (by omega)
        have HP : Hid ((ptrs L)[L1.length]? = some (.pointer (some ⟨b, 0, none⟩))) := Lib.hid (by rw [hLL]; simp [ptrs])
        have hF : flA L = blk b (Fl.mk fi fw fo ff).cs * flA (L1 ++ L2) := by rw [hLL, flA_at]
        have HF := Lib.hid hF
        have HLL := Lib.hid hLL
        have kf : (Fl.mk fi fw fo ff).Ok := hok.fl _ (by rw [← HL0.out, hLL]; simp)
        obtain ⟨k1, k2, k3, k4, -, -⟩ := kf
        simp only at k1 k2 k3 k4
        clear hLL
        rw [hF] at G
        clear hF
        simp only [Fl.cs] at G
        have w1 := hok.w1
        have w2 := hok.w2
        by_cases hrdy : (Fl.mk fi fw fo ff).ready s.win = true
        · have HY := Lib.hid hrdy
          by_cases h0 : 0 < fo
          · have d1 : decide (0 < fo) = true := by simp [h0]
            have d2' : decide (fo = 0) = false := by simp; omega
            have hb : 0 < fw ∧ 0 < s.win := by
              simp only [Fl.ready, d1, d2', Bool.true_and, Bool.false_and, Bool.or_false, Bool.and_eq_true, decide_eq_true_eq] at hrdy
              exact hrdy
            obtain ⟨hb1, hb2⟩ := hb
            have d3 : decide (0 < fw) = true := by simp [hb1]
            have d4 : decide (0 < s.win) = true := by simp [hb2]
            clear hrdy d2'
            go_wp2_with (first
              | ((with_reducible refine at_alloc ?_); refine wpu_new G ?_; clear G; intro w G)
              | ((with_reducible refine at_drew ?_); refine wpu_drew G ?_; clear G; intro w G)
              | ((with_reducible refine at_load ?_); first
                | (refine wpu_load G rfl rfl rfl rfl ?_; go_frame)
                | (refine wpu_loadB G rfl rfl rfl (by rfl) ?_; go_frame)
                | (refine wpu_loadS G rfl rfl rfl (by rfl) ?_; simp only [List.drop_succ_cons, List.drop_zero, List.take_succ_cons, List.take_zero]; go_frame))
              | ((with_reducible refine at_store ?_); first
                | (refine wpu_store G rfl rfl rfl rfl (by first | rfl | assumption | simp [*]) rfl ?_; clear G; intro w G; go_frame)
                | (refine wpu_storeB G rfl rfl rfl rfl (by rfl) (by rfl) (by first | rfl | assumption | simp [*]) ?_; clear G; intro w G; go_frame)
                | (refine wpu_storeS G rfl rfl rfl rfl (by rfl) (by rfl) (by first | rfl | assumption | simp [*]) ?_; clear G; intro w G; go_frame))
              | ((with_reducible refine at_convert ?_); refine wpu_str G rfl rfl rfl rfl ?_; go_frame)
              | ((with_reducible refine at_slice ?_); first
                | (refine wpu_sliceLo rfl rfl rfl rfl (by first | rfl | omega) (by omega) (by omega) ?_; go_frame)
                | (refine wpu_sliceLH rfl rfl rfl rfl rfl (by first | rfl | omega) (by first | rfl | omega) (by omega) (by omega) ?_; go_frame))
              | ((with_reducible refine at_load ?_); refine wpu_loadC (G.rd (.slice (some ad) L.length qc) _ G) HP.out rfl rfl rfl ?_; go_frame)
              | fail)
            refine wp_region_calm (C := Own _ _) (by kernel_rfl) (by kernel_rfl) (own_drew G) ?_
            intro ι W hne hW hs
            repeat (first | ((with_reducible refine atq_load ?_); first | (refine wpq_load hW rfl rfl rfl rfl ?_; go_frame) | (refine wpq_loadB hW rfl rfl rfl (by rfl) ?_; go_frame) | (refine wpq_loadS hW rfl rfl rfl (by rfl) ?_; simp only [List.drop_succ_cons, List.drop_zero, List.take_succ_cons, List.take_zero]; go_frame)) | (fail) | go_big_quiet_step (fail))
            refine wpQuiet_nil ?_
            intro i
            have g := hW i
            generalize W i = wg at g ⊢
            clear  hs hW hne
            have G := g
            clear g
            obtain ⟨n, hn⟩ : ∃ n, min fo (min fw (min s.win (min s.frame (c - 9)))) = n := ⟨_, rfl⟩
            have n1 : n ≤ fo := by omega
            have n2 : n ≤ fw := by omega
            have n3 : n ≤ s.win := by omega
            have hn' : min (min (min (min fo fw) s.win) s.frame) (c - 9) = n := by omega
            have HN : Hid (s.amount ⟨fi, fw, fo, ff⟩ c = n) := Lib.hid (by simp only [Sc.amount]; rw [if_pos h0, hn'])
            first
              | rw [hn]
              | rw [hn']
            clear hn hn'
            by_cases hn0 : n < 1
            · as_aux_lemma =>
              go_wp2_with (first
                | ((with_reducible refine at_alloc ?_); refine wpu_new G ?_; clear G; intro w G)
                | ((with_reducible refine at_drew ?_); refine wpu_drew G ?_; clear G; intro w G)
                | ((with_reducible refine at_load ?_); first
                  | (refine wpu_load G rfl rfl rfl rfl ?_; go_frame)
                  | (refine wpu_loadB G rfl rfl rfl (by rfl) ?_; go_frame)
                  | (refine wpu_loadS G rfl rfl rfl (by rfl) ?_; simp only [List.drop_succ_cons, List.drop_zero, List.take_succ_cons, List.take_zero]; go_frame))
                | ((with_reducible refine at_store ?_); first
                  | (refine wpu_store G rfl rfl rfl rfl (by first | rfl | assumption | simp [*]) rfl ?_; clear G; intro w G; go_frame)
                  | (refine wpu_storeB G rfl rfl rfl rfl (by rfl) (by rfl) (by first | rfl | assumption | simp [*]) ?_; clear G; intro w G; go_frame)
                  | (refine wpu_storeS G rfl rfl rfl rfl (by rfl) (by rfl) (by first | rfl | assumption | simp [*]) ?_; clear G; intro w G; go_frame))
                | ((with_reducible refine at_convert ?_); refine wpu_str G rfl rfl rfl rfl ?_; go_frame)
                | ((with_reducible refine at_slice ?_); first
                  | (refine wpu_sliceLo rfl rfl rfl rfl (by first | rfl | omega) (by omega) (by omega) ?_; go_frame)
                  | (refine wpu_sliceLH rfl rfl rfl rfl rfl (by first | rfl | omega) (by first | rfl | omega) (by omega) (by omega) ?_; go_frame))
                | fail)
              rw [Exit.noGoto_ret]
              try simp only [Exit.inBlock, Exit.then]
              refine bodyPost_ret (results2 rfl (by first | exact resT rfl | exact resB G rfl (by rfl) | exact resO G rfl rfl) (by first | exact resT rfl | exact resB G rfl (by rfl) | exact resO G rfl rfl)) rfl ?_
              refine ⟨none, s, next_few (l1 := L1.map Prod.snd) (l2 := L2.map Prod.snd) (f := ⟨fi, fw, fo, ff⟩) (by rw [← HL0.out, HLL.out]; simp) ?_ HY.out h0 (by rw [HN.out]; exact hn0), rfl, sch_close (vc := .slice co 0 cc) (vq := .slice (some ad) L.length qc) (L := L) (C := []) s (G.right.eq ?_) rfl HL0.out hC⟩
              · intro x hx
                obtain ⟨y, hy, rfl⟩ := List.mem_map.1 hx
                exact hno y hy
              · rw [HF.out]
                rfl
            · skip
              obtain ⟨M, hM⟩ : ∃ M, L1 ++ L2 = M := ⟨_, rfl⟩
              rw [hM] at G
              have HM := Lib.hid hM
              have HE : Hid ((ptrs L).take L1.length ++ (ptrs L).drop (L1.length + 1) = ptrs M) := Lib.hid (by
                rw [HLL.out, ← hM, ptrs_app, ptrs_app, ← ptrs_len L1]
                exact take_mid (ptrs L1) (ptrs L2) _)
              have hm1 : L.length - 1 = M.length := by rw [HLL.out, ← hM]; simp
              have hm2 : M.length ≤ 1000000 := by omega
              have HE2 := Lib.hid hm1
              clear hm1
              have HM' : Hid (M.map Prod.snd = L1.map Prod.snd ++ L2.map Prod.snd) := Lib.hid (by rw [← HM.out]; simp)
              have HQ : Hid (s.q = L1.map Prod.snd ++ ⟨fi, fw, fo, ff⟩ :: L2.map Prod.snd) := Lib.hid (by rw [← HL0.out, HLL.out]; simp)
              have hno' : ∀ x ∈ L1.map Prod.snd, x.ready s.win = false := by
                intro x hx
                obtain ⟨y, hy, rfl⟩ := List.mem_map.1 hx
                exact hno y hy
              clear hM
              cases ff
              · as_aux_lemma =>
                go_wp2_with (first
                  | ((with_reducible refine at_alloc ?_); refine wpu_new G ?_; clear G; intro w G)
                  | ((with_reducible refine at_drew ?_); refine wpu_drew G ?_; clear G; intro w G)
                  | ((with_reducible refine at_load ?_); first
                    | (refine wpu_load G rfl rfl rfl rfl ?_; go_frame)
                    | (refine wpu_loadB G rfl rfl rfl (by rfl) ?_; go_frame)
                    | (refine wpu_loadS G rfl rfl rfl (by rfl) ?_; simp only [List.drop_succ_cons, List.drop_zero, List.take_succ_cons, List.take_zero]; go_frame))
                  | ((with_reducible refine at_store ?_); first
                    | (refine wpu_store G rfl rfl rfl rfl (by first | rfl | assumption | simp [*]) rfl ?_; clear G; intro w G; go_frame)
                    | (refine wpu_storeB G rfl rfl rfl rfl (by rfl) (by rfl) (by first | rfl | assumption | simp [*]) ?_; clear G; intro w G; go_frame)
                    | (refine wpu_storeS G rfl rfl rfl rfl (by rfl) (by rfl) (by first | rfl | assumption | simp [*]) ?_; clear G; intro w G; go_frame))
                  | ((with_reducible refine at_convert ?_); refine wpu_str G rfl rfl rfl rfl ?_; go_frame)
                  | ((with_reducible refine at_slice ?_); first
                    | (refine wpu_sliceLo rfl rfl rfl rfl (by first | rfl | omega) (by omega) (by omega) ?_; go_frame)
                    | (refine wpu_sliceLH rfl rfl rfl rfl rfl (by first | rfl | omega) (by first | rfl | omega) (by omega) (by omega) ?_; go_frame))
                  | fail)
                replace G : Own B (blk rb [.slice none 0 0, .int .i64 0, .int .i64 0, .bool false] * (blk a [.slice co 0 cc, .slice (some ad) L.length qc, .int .i64 (s.win - n), .int .i64 s.frame] * (sl 1 (.slice co 0 cc) 0 [] * (sl 1 (.slice (some ad) L.length qc) L.length (ptrs L) * (ctA [] * (blk b [.int .i64 fi, .int .i64 (fw - n), .int .i64 (fo - n), .bool false] * flA M * R)))))) w := G
                refine wp_region_mix (List.replicate 17 0 ++ [1, 2]) (Own B _) (by kernel_rfl) (by kernel_rfl) (own_drew G) ?_
                refine mix_calm 17 ((own_drew G)) (by rfl) (by rfl) ?_
                intro ι W hne hW
                dsimp only [List.take, List.drop]
                repeat (first | ((with_reducible refine atq_load ?_); first | (refine wpq_load hW rfl rfl rfl rfl ?_; go_frame) | (refine wpq_loadB hW rfl rfl rfl (by rfl) ?_; go_frame) | (refine wpq_loadS hW rfl rfl rfl (by rfl) ?_; simp only [List.drop_succ_cons, List.drop_zero, List.take_succ_cons, List.take_zero]; go_frame)) | (fail) | go_big_quiet_step (fail))
                refine wpQuiet_nil ?_
                clear  hW hne W ι
                refine mix_loud rfl (fun K hK => ?_)
                have GN := own_drew (own_new G [.slice none 0 0, .int .i64 0, .int .i64 0, .bool false] 35)
                clear G
                go_wp2_with fail
                refine ⟨GN.right, ?_⟩
                try go_frame
                generalize (World.alloc _ _).drew = w at GN ⊢
                try clear G
                have G := GN
                clear GN
                refine mix_last rfl (fun K hK => ?_)
                refine wpk_storeB G rfl rfl rfl (by rfl) (by rfl) (by rfl) fun w G => hK _ _ (mix_nil ?_)
                clear hK
                try go_frame
                go_wp2_with (first
                  | ((with_reducible refine at_alloc ?_); refine wpu_new G ?_; clear G; intro w G)
                  | ((with_reducible refine at_drew ?_); refine wpu_drew G ?_; clear G; intro w G)
                  | ((with_reducible refine at_load ?_); first
                    | (refine wpu_load G rfl rfl rfl rfl ?_; go_frame)
                    | (refine wpu_loadB G rfl rfl rfl (by rfl) ?_; go_frame)
                    | (refine wpu_loadS G rfl rfl rfl (by rfl) ?_; simp only [List.drop_succ_cons, List.drop_zero, List.take_succ_cons, List.take_zero]; go_frame))
                  | ((with_reducible refine at_store ?_); first
                    | (refine wpu_store G rfl rfl rfl rfl (by first | rfl | assumption | simp [*]) rfl ?_; clear G; intro w G; go_frame)
                    | (refine wpu_storeB G rfl rfl rfl rfl (by rfl) (by rfl) (by first | rfl | assumption | simp [*]) ?_; clear G; intro w G; go_frame)
                    | (refine wpu_storeS G rfl rfl rfl rfl (by rfl) (by rfl) (by first | rfl | assumption | simp [*]) ?_; clear G; intro w G; go_frame))
                  | ((with_reducible refine at_convert ?_); refine wpu_str G rfl rfl rfl rfl ?_; go_frame)
                  | ((with_reducible refine at_slice ?_); first
                    | (refine wpu_sliceLo rfl rfl rfl rfl (by first | rfl | omega) (by omega) (by omega) ?_; go_frame)
                    | (refine wpu_sliceLH rfl rfl rfl rfl rfl (by first | rfl | omega) (by first | rfl | omega) (by omega) (by omega) ?_; go_frame))
                  | fail)
                refine Calls.mono (withoutF (i := L1.length) G (G.rd (.slice (some ad) L.length qc)) (ptrs_one L) hlen (by omega)) ?_
                clear G; rintro e w ⟨v, rfl, G⟩
                obtain ⟨xo, xc, rfl, j1, j2⟩ := G.hdr v
                rw [HE.out] at G
                rw [HE2.out] at G j1 ⊢
                go_wp2_with (first
                  | ((with_reducible refine at_alloc ?_); refine wpu_new G ?_; clear G; intro w G)
                  | ((with_reducible refine at_drew ?_); refine wpu_drew G ?_; clear G; intro w G)
                  | ((with_reducible refine at_load ?_); first
                    | (refine wpu_load G rfl rfl rfl rfl ?_; go_frame)
                    | (refine wpu_loadB G rfl rfl rfl (by rfl) ?_; go_frame)
                    | (refine wpu_loadS G rfl rfl rfl (by rfl) ?_; simp only [List.drop_succ_cons, List.drop_zero, List.take_succ_cons, List.take_zero]; go_frame))
                  | ((with_reducible refine at_store ?_); first
                    | (refine wpu_store G rfl rfl rfl rfl (by first | rfl | assumption | simp [*]) rfl ?_; clear G; intro w G; go_frame)
                    | (refine wpu_storeB G rfl rfl rfl rfl (by rfl) (by rfl) (by first | rfl | assumption | simp [*]) ?_; clear G; intro w G; go_frame)
                    | (refine wpu_storeS G rfl rfl rfl rfl (by rfl) (by rfl) (by first | rfl | assumption | simp [*]) ?_; clear G; intro w G; go_frame))
                  | ((with_reducible refine at_convert ?_); refine wpu_str G rfl rfl rfl rfl ?_; go_frame)
                  | ((with_reducible refine at_slice ?_); first
                    | (refine wpu_sliceLo rfl rfl rfl rfl (by first | rfl | omega) (by omega) (by omega) ?_; go_frame)
                    | (refine wpu_sliceLH rfl rfl rfl rfl rfl (by first | rfl | omega) (by first | rfl | omega) (by omega) (by omega) ?_; go_frame))
                  | ((with_reducible refine at_append ?_); refine wpu_append1 G rfl rfl rfl rfl (by rfl) (by rfl) (by unfold maxLen; omega) (by omega) ?_; clear G; intro v w G; obtain ⟨yo, yc, rfl, j3, j4⟩ := G.hdr v; go_frame)
                  | fail)
                rw [Exit.noGoto_ret]
                try simp only [Exit.inBlock, Exit.then]
                refine bodyPost_ret (results2 rfl (by first | exact resT rfl | exact resB G rfl (by rfl) | exact resO G rfl rfl) (by first | exact resT rfl | exact resB G rfl (by rfl) | exact resO G rfl rfl)) rfl ?_
                exact ⟨_, _, next_cont (l := M.map Prod.snd) (f' := ⟨fi, fw - n, fo - n, false⟩) hc9 HQ.out hno' HY.out HN.out (fun h => by omega) rfl HM'.out rfl, rfl, send_cont { s with q := M.map Prod.snd ++ [⟨fi, fw - n, fo - n, false⟩], win := s.win - n } ⟨fi, fw - n, fo - n, false⟩ G rfl rfl rfl hct⟩
              · by_cases hz : fo - n = 0
                · as_aux_lemma =>
                  have z1 : (fo - n == 0) = true := by simp [hz]
                  have z2 : decide (fo - n = 0) = true := by simp [hz]
                  have HZ := Lib.hid hz
                  clear hz
                  go_wp2_with (first
                    | ((with_reducible refine at_alloc ?_); refine wpu_new G ?_; clear G; intro w G)
                    | ((with_reducible refine at_drew ?_); refine wpu_drew G ?_; clear G; intro w G)
                    | ((with_reducible refine at_load ?_); first
                      | (refine wpu_load G rfl rfl rfl rfl ?_; go_frame)
                      | (refine wpu_loadB G rfl rfl rfl (by rfl) ?_; go_frame)
                      | (refine wpu_loadS G rfl rfl rfl (by rfl) ?_; simp only [List.drop_succ_cons, List.drop_zero, List.take_succ_cons, List.take_zero]; go_frame))
                    | ((with_reducible refine at_store ?_); first
                      | (refine wpu_store G rfl rfl rfl rfl (by first | rfl | assumption | simp [*]) rfl ?_; clear G; intro w G; go_frame)
                      | (refine wpu_storeB G rfl rfl rfl rfl (by rfl) (by rfl) (by first | rfl | assumption | simp [*]) ?_; clear G; intro w G; go_frame)
                      | (refine wpu_storeS G rfl rfl rfl rfl (by rfl) (by rfl) (by first | rfl | assumption | simp [*]) ?_; clear G; intro w G; go_frame))
                    | ((with_reducible refine at_convert ?_); refine wpu_str G rfl rfl rfl rfl ?_; go_frame)
                    | ((with_reducible refine at_slice ?_); first
                      | (refine wpu_sliceLo rfl rfl rfl rfl (by first | rfl | omega) (by omega) (by omega) ?_; go_frame)
                      | (refine wpu_sliceLH rfl rfl rfl rfl rfl (by first | rfl | omega) (by first | rfl | omega) (by omega) (by omega) ?_; go_frame))
                    | fail)
                  replace G : Own B (blk rb [.slice none 0 0, .int .i64 0, .int .i64 0, .bool false] * (blk a [.slice co 0 cc, .slice (some ad) L.length qc, .int .i64 (s.win - n), .int .i64 s.frame] * (sl 1 (.slice co 0 cc) 0 [] * (sl 1 (.slice (some ad) L.length qc) L.length (ptrs L) * (ctA [] * (blk b [.int .i64 fi, .int .i64 (fw - n), .int .i64 (fo - n), .bool true] * flA M * R)))))) w := G
                  refine wp_region_mix (List.replicate 17 0 ++ [1, 2]) (Own B _) (by kernel_rfl) (by kernel_rfl) (own_drew G) ?_
                  refine mix_calm 17 ((own_drew G)) (by rfl) (by rfl) ?_
                  intro ι W hne hW
                  dsimp only [List.take, List.drop]
                  repeat (first | ((with_reducible refine atq_load ?_); first | (refine wpq_load hW rfl rfl rfl rfl ?_; go_frame) | (refine wpq_loadB hW rfl rfl rfl (by rfl) ?_; go_frame) | (refine wpq_loadS hW rfl rfl rfl (by rfl) ?_; simp only [List.drop_succ_cons, List.drop_zero, List.take_succ_cons, List.take_zero]; go_frame)) | (fail) | go_big_quiet_step (fail))
                  refine wpQuiet_nil ?_
                  clear  hW hne W ι
                  refine mix_loud rfl (fun K hK => ?_)
                  have GN := own_drew (own_new G [.slice none 0 0, .int .i64 0, .int .i64 0, .bool false] 35)
                  clear G
                  go_wp2_with fail
                  refine ⟨GN.right, ?_⟩
                  try go_frame
                  generalize (World.alloc _ _).drew = w at GN ⊢
                  try clear G
                  have G := GN
                  clear GN
                  refine mix_last rfl (fun K hK => ?_)
                  refine wpk_storeB G rfl rfl rfl (by rfl) (by rfl) (by rfl) fun w G => hK _ _ (mix_nil ?_)
                  clear hK
                  try go_frame
                  go_wp2_with (first
                    | ((with_reducible refine at_alloc ?_); refine wpu_new G ?_; clear G; intro w G)
                    | ((with_reducible refine at_drew ?_); refine wpu_drew G ?_; clear G; intro w G)
                    | ((with_reducible refine at_load ?_); first
                      | (refine wpu_load G rfl rfl rfl rfl ?_; go_frame)
                      | (refine wpu_loadB G rfl rfl rfl (by rfl) ?_; go_frame)
                      | (refine wpu_loadS G rfl rfl rfl (by rfl) ?_; simp only [List.drop_succ_cons, List.drop_zero, List.take_succ_cons, List.take_zero]; go_frame))
                    | ((with_reducible refine at_store ?_); first
                      | (refine wpu_store G rfl rfl rfl rfl (by first | rfl | assumption | simp [*]) rfl ?_; clear G; intro w G; go_frame)
                      | (refine wpu_storeB G rfl rfl rfl rfl (by rfl) (by rfl) (by first | rfl | assumption | simp [*]) ?_; clear G; intro w G; go_frame)
                      | (refine wpu_storeS G rfl rfl rfl rfl (by rfl) (by rfl) (by first | rfl | assumption | simp [*]) ?_; clear G; intro w G; go_frame))
                    | ((with_reducible refine at_convert ?_); refine wpu_str G rfl rfl rfl rfl ?_; go_frame)
                    | ((with_reducible refine at_slice ?_); first
                      | (refine wpu_sliceLo rfl rfl rfl rfl (by first | rfl | omega) (by omega) (by omega) ?_; go_frame)
                      | (refine wpu_sliceLH rfl rfl rfl rfl rfl (by first | rfl | omega) (by first | rfl | omega) (by omega) (by omega) ?_; go_frame))
                    | fail)
                  refine Calls.mono (withoutF (i := L1.length) G (G.rd (.slice (some ad) L.length qc)) (ptrs_one L) hlen (by omega)) ?_
                  clear G; rintro e w ⟨v, rfl, G⟩
                  obtain ⟨xo, xc, rfl, j1, j2⟩ := G.hdr v
                  rw [HE.out] at G
                  rw [HE2.out] at G j1 ⊢
                  go_wp2_with (first
                    | ((with_reducible refine at_alloc ?_); refine wpu_new G ?_; clear G; intro w G)
                    | ((with_reducible refine at_drew ?_); refine wpu_drew G ?_; clear G; intro w G)
                    | ((with_reducible refine at_load ?_); first
                      | (refine wpu_load G rfl rfl rfl rfl ?_; go_frame)
                      | (refine wpu_loadB G rfl rfl rfl (by rfl) ?_; go_frame)
                      | (refine wpu_loadS G rfl rfl rfl (by rfl) ?_; simp only [List.drop_succ_cons, List.drop_zero, List.take_succ_cons, List.take_zero]; go_frame))
                    | ((with_reducible refine at_store ?_); first
                      | (refine wpu_store G rfl rfl rfl rfl (by first | rfl | assumption | simp [*]) rfl ?_; clear G; intro w G; go_frame)
                      | (refine wpu_storeB G rfl rfl rfl rfl (by rfl) (by rfl) (by first | rfl | assumption | simp [*]) ?_; clear G; intro w G; go_frame)
                      | (refine wpu_storeS G rfl rfl rfl rfl (by rfl) (by rfl) (by first | rfl | assumption | simp [*]) ?_; clear G; intro w G; go_frame))
                    | ((with_reducible refine at_convert ?_); refine wpu_str G rfl rfl rfl rfl ?_; go_frame)
                    | ((with_reducible refine at_slice ?_); first
                      | (refine wpu_sliceLo rfl rfl rfl rfl (by first | rfl | omega) (by omega) (by omega) ?_; go_frame)
                      | (refine wpu_sliceLH rfl rfl rfl rfl rfl (by first | rfl | omega) (by first | rfl | omega) (by omega) (by omega) ?_; go_frame))
                    | ((with_reducible refine at_append ?_); refine wpu_append1 G rfl rfl rfl rfl (by rfl) (by rfl) (by unfold maxLen; omega) (by omega) ?_; clear G; intro v w G; obtain ⟨yo, yc, rfl, j3, j4⟩ := G.hdr v; go_frame)
                    | fail)
                  rw [Exit.noGoto_ret]
                  try simp only [Exit.inBlock, Exit.then]
                  refine bodyPost_ret (results2 rfl (by first | exact resT rfl | exact resB G rfl (by rfl) | exact resO G rfl rfl) (by first | exact resT rfl | exact resB G rfl (by rfl) | exact resO G rfl rfl)) rfl ?_
                  exact ⟨_, _, next_end (l := M.map Prod.snd) hc9 HQ.out hno' HY.out HN.out (fun h => by omega) (by simp [Fl.last, HZ.out]) HM'.out, rfl, send_end { s with q := M.map Prod.snd, win := s.win - n } G rfl rfl hct⟩
                · as_aux_lemma =>
                  have z1 : (fo - n == 0) = false := by simp [hz]
                  have z2 : decide (fo - n = 0) = false := by simp [hz]
                  have HZ := Lib.hid hz
                  clear hz
                  go_wp2_with (first
                    | ((with_reducible refine at_alloc ?_); refine wpu_new G ?_; clear G; intro w G)
                    | ((with_reducible refine at_drew ?_); refine wpu_drew G ?_; clear G; intro w G)
                    | ((with_reducible refine at_load ?_); first
                      | (refine wpu_load G rfl rfl rfl rfl ?_; go_frame)
                      | (refine wpu_loadB G rfl rfl rfl (by rfl) ?_; go_frame)
                      | (refine wpu_loadS G rfl rfl rfl (by rfl) ?_; simp only [List.drop_succ_cons, List.drop_zero, List.take_succ_cons, List.take_zero]; go_frame))
                    | ((with_reducible refine at_store ?_); first
                      | (refine wpu_store G rfl rfl rfl rfl (by first | rfl | assumption | simp [*]) rfl ?_; clear G; intro w G; go_frame)
                      | (refine wpu_storeB G rfl rfl rfl rfl (by rfl) (by rfl) (by first | rfl | assumption | simp [*]) ?_; clear G; intro w G; go_frame)
                      | (refine wpu_storeS G rfl rfl rfl rfl (by rfl) (by rfl) (by first | rfl | assumption | simp [*]) ?_; clear G; intro w G; go_frame))
                    | ((with_reducible refine at_convert ?_); refine wpu_str G rfl rfl rfl rfl ?_; go_frame)
                    | ((with_reducible refine at_slice ?_); first
                      | (refine wpu_sliceLo rfl rfl rfl rfl (by first | rfl | omega) (by omega) (by omega) ?_; go_frame)
                      | (refine wpu_sliceLH rfl rfl rfl rfl rfl (by first | rfl | omega) (by first | rfl | omega) (by omega) (by omega) ?_; go_frame))
                    | fail)
                  replace G : Own B (blk rb [.slice none 0 0, .int .i64 0, .int .i64 0, .bool false] * (blk a [.slice co 0 cc, .slice (some ad) L.length qc, .int .i64 (s.win - n), .int .i64 s.frame] * (sl 1 (.slice co 0 cc) 0 [] * (sl 1 (.slice (some ad) L.length qc) L.length (ptrs L) * (ctA [] * (blk b [.int .i64 fi, .int .i64 (fw - n), .int .i64 (fo - n), .bool true] * flA M * R)))))) w := G
                  refine wp_region_mix (List.replicate 17 0 ++ [1, 2]) (Own B _) (by kernel_rfl) (by kernel_rfl) (own_drew G) ?_
                  refine mix_calm 17 ((own_drew G)) (by rfl) (by rfl) ?_
                  intro ι W hne hW
                  dsimp only [List.take, List.drop]
                  repeat (first | ((with_reducible refine atq_load ?_); first | (refine wpq_load hW rfl rfl rfl rfl ?_; go_frame) | (refine wpq_loadB hW rfl rfl rfl (by rfl) ?_; go_frame) | (refine wpq_loadS hW rfl rfl rfl (by rfl) ?_; simp only [List.drop_succ_cons, List.drop_zero, List.take_succ_cons, List.take_zero]; go_frame)) | (fail) | go_big_quiet_step (fail))
                  refine wpQuiet_nil ?_
                  clear  hW hne W ι
                  refine mix_loud rfl (fun K hK => ?_)
                  have GN := own_drew (own_new G [.slice none 0 0, .int .i64 0, .int .i64 0, .bool false] 35)
                  clear G
                  go_wp2_with fail
                  refine ⟨GN.right, ?_⟩
                  try go_frame
                  generalize (World.alloc _ _).drew = w at GN ⊢
                  try clear G
                  have G := GN
                  clear GN
                  refine mix_last rfl (fun K hK => ?_)
                  refine wpk_storeB G rfl rfl rfl (by rfl) (by rfl) (by rfl) fun w G => hK _ _ (mix_nil ?_)
                  clear hK
                  try go_frame
                  go_wp2_with (first
                    | ((with_reducible refine at_alloc ?_); refine wpu_new G ?_; clear G; intro w G)
                    | ((with_reducible refine at_drew ?_); refine wpu_drew G ?_; clear G; intro w G)
                    | ((with_reducible refine at_load ?_); first
                      | (refine wpu_load G rfl rfl rfl rfl ?_; go_frame)
                      | (refine wpu_loadB G rfl rfl rfl (by rfl) ?_; go_frame)
                      | (refine wpu_loadS G rfl rfl rfl (by rfl) ?_; simp only [List.drop_succ_cons, List.drop_zero, List.take_succ_cons, List.take_zero]; go_frame))
                    | ((with_reducible refine at_store ?_); first
                      | (refine wpu_store G rfl rfl rfl rfl (by first | rfl | assumption | simp [*]) rfl ?_; clear G; intro w G; go_frame)
                      | (refine wpu_storeB G rfl rfl rfl rfl (by rfl) (by rfl) (by first | rfl | assumption | simp [*]) ?_; clear G; intro w G; go_frame)
                      | (refine wpu_storeS G rfl rfl rfl rfl (by rfl) (by rfl) (by first | rfl | assumption | simp [*]) ?_; clear G; intro w G; go_frame))
                    | ((with_reducible refine at_convert ?_); refine wpu_str G rfl rfl rfl rfl ?_; go_frame)
                    | ((with_reducible refine at_slice ?_); first
                      | (refine wpu_sliceLo rfl rfl rfl rfl (by first | rfl | omega) (by omega) (by omega) ?_; go_frame)
                      | (refine wpu_sliceLH rfl rfl rfl rfl rfl (by first | rfl | omega) (by first | rfl | omega) (by omega) (by omega) ?_; go_frame))
                    | fail)
                  refine Calls.mono (withoutF (i := L1.length) G (G.rd (.slice (some ad) L.length qc)) (ptrs_one L) hlen (by omega)) ?_
                  clear G; rintro e w ⟨v, rfl, G⟩
                  obtain ⟨xo, xc, rfl, j1, j2⟩ := G.hdr v
                  rw [HE.out] at G
                  rw [HE2.out] at G j1 ⊢
                  go_wp2_with (first
                    | ((with_reducible refine at_alloc ?_); refine wpu_new G ?_; clear G; intro w G)
                    | ((with_reducible refine at_drew ?_); refine wpu_drew G ?_; clear G; intro w G)
                    | ((with_reducible refine at_load ?_); first
                      | (refine wpu_load G rfl rfl rfl rfl ?_; go_frame)
                      | (refine wpu_loadB G rfl rfl rfl (by rfl) ?_; go_frame)
                      | (refine wpu_loadS G rfl rfl rfl (by rfl) ?_; simp only [List.drop_succ_cons, List.drop_zero, List.take_succ_cons, List.take_zero]; go_frame))
                    | ((with_reducible refine at_store ?_); first
                      | (refine wpu_store G rfl rfl rfl rfl (by first | rfl | assumption | simp [*]) rfl ?_; clear G; intro w G; go_frame)
                      | (refine wpu_storeB G rfl rfl rfl rfl (by rfl) (by rfl) (by first | rfl | assumption | simp [*]) ?_; clear G; intro w G; go_frame)
                      | (refine wpu_storeS G rfl rfl rfl rfl (by rfl) (by rfl) (by first | rfl | assumption | simp [*]) ?_; clear G; intro w G; go_frame))
                    | ((with_reducible refine at_convert ?_); refine wpu_str G rfl rfl rfl rfl ?_; go_frame)
                    | ((with_reducible refine at_slice ?_); first
                      | (refine wpu_sliceLo rfl rfl rfl rfl (by first | rfl | omega) (by omega) (by omega) ?_; go_frame)
                      | (refine wpu_sliceLH rfl rfl rfl rfl rfl (by first | rfl | omega) (by first | rfl | omega) (by omega) (by omega) ?_; go_frame))
                    | ((with_reducible refine at_append ?_); refine wpu_append1 G rfl rfl rfl rfl (by rfl) (by rfl) (by unfold maxLen; omega) (by omega) ?_; clear G; intro v w G; obtain ⟨yo, yc, rfl, j3, j4⟩ := G.hdr v; go_frame)
                    | fail)
                  rw [Exit.noGoto_ret]
                  try simp only [Exit.inBlock, Exit.then]
                  refine bodyPost_ret (results2 rfl (by first | exact resT rfl | exact resB G rfl (by rfl) | exact resO G rfl rfl) (by first | exact resT rfl | exact resB G rfl (by rfl) | exact resO G rfl rfl)) rfl ?_
                  exact ⟨_, _, next_cont (l := M.map Prod.snd) (f' := ⟨fi, fw - n, fo - n, true⟩) hc9 HQ.out hno' HY.out HN.out (fun h => by omega) (by simp [Fl.last, HZ.out]) HM'.out rfl, rfl, send_cont { s with q := M.map Prod.snd ++ [⟨fi, fw - n, fo - n, true⟩], win := s.win - n } ⟨fi, fw - n, fo - n, true⟩ G rfl rfl rfl hct⟩
          · have hfo : fo = 0 := by omega
            subst hfo
            have hff : ff = true := by
              cases ff
              · exact absurd hrdy (by simp [Fl.ready])
              · rfl
            subst hff
            clear hrdy
            obtain ⟨M, hM⟩ : ∃ M, L1 ++ L2 = M := ⟨_, rfl⟩
            rw [hM] at G
            have HM := Lib.hid hM
            have HE : Hid ((ptrs L).take L1.length ++ (ptrs L).drop (L1.length + 1) = ptrs M) := Lib.hid (by
              rw [HLL.out, ← hM, ptrs_app, ptrs_app, ← ptrs_len L1]
              exact take_mid (ptrs L1) (ptrs L2) _)
            have hm1 : L.length - 1 = M.length := by rw [HLL.out, ← hM]; simp
            have hm2 : M.length ≤ 1000000 := by omega
            have HE2 := Lib.hid hm1
            clear hm1
            have HM' : Hid (M.map Prod.snd = L1.map Prod.snd ++ L2.map Prod.snd) := Lib.hid (by rw [← HM.out]; simp)
            have HQ : Hid (s.q = L1.map Prod.snd ++ ⟨fi, fw, 0, true⟩ :: L2.map Prod.snd) := Lib.hid (by rw [← HL0.out, HLL.out]; simp)
            have hno' : ∀ x ∈ L1.map Prod.snd, x.ready s.win = false := by
              intro x hx
              obtain ⟨y, hy, rfl⟩ := List.mem_map.1 hx
              exact hno y hy
            clear hM
            as_aux_lemma =>
            go_wp2_with (first
              | ((with_reducible refine at_alloc ?_); refine wpu_new G ?_; clear G; intro w G)
              | ((with_reducible refine at_drew ?_); refine wpu_drew G ?_; clear G; intro w G)
              | ((with_reducible refine at_load ?_); first
                | (refine wpu_load G rfl rfl rfl rfl ?_; go_frame)
                | (refine wpu_loadB G rfl rfl rfl (by rfl) ?_; go_frame)
                | (refine wpu_loadS G rfl rfl rfl (by rfl) ?_; simp only [List.drop_succ_cons, List.drop_zero, List.take_succ_cons, List.take_zero]; go_frame))
              | ((with_reducible refine at_store ?_); first
                | (refine wpu_store G rfl rfl rfl rfl (by first | rfl | assumption | simp [*]) rfl ?_; clear G; intro w G; go_frame)
                | (refine wpu_storeB G rfl rfl rfl rfl (by rfl) (by rfl) (by first | rfl | assumption | simp [*]) ?_; clear G; intro w G; go_frame)
                | (refine wpu_storeS G rfl rfl rfl rfl (by rfl) (by rfl) (by first | rfl | assumption | simp [*]) ?_; clear G; intro w G; go_frame))
              | ((with_reducible refine at_convert ?_); refine wpu_str G rfl rfl rfl rfl ?_; go_frame)
              | ((with_reducible refine at_slice ?_); first
                | (refine wpu_sliceLo rfl rfl rfl rfl (by first | rfl | omega) (by omega) (by omega) ?_; go_frame)
                | (refine wpu_sliceLH rfl rfl rfl rfl rfl (by first | rfl | omega) (by first | rfl | omega) (by omega) (by omega) ?_; go_frame))
              | ((with_reducible refine at_load ?_); refine wpu_loadC (G.rd (.slice (some ad) L.length qc) _ G) HP.out rfl rfl rfl ?_; go_frame)
              | fail)
            replace G : Own B (blk rb [.slice none 0 0, .int .i64 0, .int .i64 0, .bool false] * (blk a [.slice co 0 cc, .slice (some ad) L.length qc, .int .i64 s.win, .int .i64 s.frame] * (sl 1 (.slice co 0 cc) 0 [] * (sl 1 (.slice (some ad) L.length qc) L.length (ptrs L) * (ctA [] * (blk b [.int .i64 fi, .int .i64 fw, .int .i64 0, .bool true] * flA M * R)))))) w := G
            refine wp_region_mix (List.replicate 17 0 ++ [1, 2]) (Own B _) (by kernel_rfl) (by kernel_rfl) (own_drew G) ?_
            refine mix_calm 17 ((own_drew G)) (by rfl) (by rfl) ?_
            intro ι W hne hW
            dsimp only [List.take, List.drop]
            repeat (first | ((with_reducible refine atq_load ?_); first | (refine wpq_load hW rfl rfl rfl rfl ?_; go_frame) | (refine wpq_loadB hW rfl rfl rfl (by rfl) ?_; go_frame) | (refine wpq_loadS hW rfl rfl rfl (by rfl) ?_; simp only [List.drop_succ_cons, List.drop_zero, List.take_succ_cons, List.take_zero]; go_frame)) | (fail) | go_big_quiet_step (fail))
            refine wpQuiet_nil ?_
            clear  hW hne W ι
            refine mix_loud rfl (fun K hK => ?_)
            have GN := own_drew (own_new G [.slice none 0 0, .int .i64 0, .int .i64 0, .bool false] 35)
            clear G
            go_wp2_with fail
            refine ⟨GN.right, ?_⟩
            try go_frame
            generalize (World.alloc _ _).drew = w at GN ⊢
            try clear G
            have G := GN
            clear GN
            refine mix_last rfl (fun K hK => ?_)
            refine wpk_storeB G rfl rfl rfl (by rfl) (by rfl) (by rfl) fun w G => hK _ _ (mix_nil ?_)
            clear hK
            try go_frame
            go_wp2_with (first
              | ((with_reducible refine at_alloc ?_); refine wpu_new G ?_; clear G; intro w G)
              | ((with_reducible refine at_drew ?_); refine wpu_drew G ?_; clear G; intro w G)
              | ((with_reducible refine at_load ?_); first
                | (refine wpu_load G rfl rfl rfl rfl ?_; go_frame)
                | (refine wpu_loadB G rfl rfl rfl (by rfl) ?_; go_frame)
                | (refine wpu_loadS G rfl rfl rfl (by rfl) ?_; simp only [List.drop_succ_cons, List.drop_zero, List.take_succ_cons, List.take_zero]; go_frame))
              | ((with_reducible refine at_store ?_); first
                | (refine wpu_store G rfl rfl rfl rfl (by first | rfl | assumption | simp [*]) rfl ?_; clear G; intro w G; go_frame)
                | (refine wpu_storeB G rfl rfl rfl rfl (by rfl) (by rfl) (by first | rfl | assumption | simp [*]) ?_; clear G; intro w G; go_frame)
                | (refine wpu_storeS G rfl rfl rfl rfl (by rfl) (by rfl) (by first | rfl | assumption | simp [*]) ?_; clear G; intro w G; go_frame))
              | ((with_reducible refine at_convert ?_); refine wpu_str G rfl rfl rfl rfl ?_; go_frame)
              | ((with_reducible refine at_slice ?_); first
                | (refine wpu_sliceLo rfl rfl rfl rfl (by first | rfl | omega) (by omega) (by omega) ?_; go_frame)
                | (refine wpu_sliceLH rfl rfl rfl rfl rfl (by first | rfl | omega) (by first | rfl | omega) (by omega) (by omega) ?_; go_frame))
              | fail)
            refine Calls.mono (withoutF (i := L1.length) G (G.rd (.slice (some ad) L.length qc)) (ptrs_one L) hlen (by omega)) ?_
            clear G; rintro e w ⟨v, rfl, G⟩
            obtain ⟨xo, xc, rfl, j1, j2⟩ := G.hdr v
            rw [HE.out] at G
            rw [HE2.out] at G j1 ⊢
            go_wp2_with (first
              | ((with_reducible refine at_alloc ?_); refine wpu_new G ?_; clear G; intro w G)
              | ((with_reducible refine at_drew ?_); refine wpu_drew G ?_; clear G; intro w G)
              | ((with_reducible refine at_load ?_); first
                | (refine wpu_load G rfl rfl rfl rfl ?_; go_frame)
                | (refine wpu_loadB G rfl rfl rfl (by rfl) ?_; go_frame)
                | (refine wpu_loadS G rfl rfl rfl (by rfl) ?_; simp only [List.drop_succ_cons, List.drop_zero, List.take_succ_cons, List.take_zero]; go_frame))
              | ((with_reducible refine at_store ?_); first
                | (refine wpu_store G rfl rfl rfl rfl (by first | rfl | assumption | simp [*]) rfl ?_; clear G; intro w G; go_frame)
                | (refine wpu_storeB G rfl rfl rfl rfl (by rfl) (by rfl) (by first | rfl | assumption | simp [*]) ?_; clear G; intro w G; go_frame)
                | (refine wpu_storeS G rfl rfl rfl rfl (by rfl) (by rfl) (by first | rfl | assumption | simp [*]) ?_; clear G; intro w G; go_frame))
              | ((with_reducible refine at_convert ?_); refine wpu_str G rfl rfl rfl rfl ?_; go_frame)
              | ((with_reducible refine at_slice ?_); first
                | (refine wpu_sliceLo rfl rfl rfl rfl (by first | rfl | omega) (by omega) (by omega) ?_; go_frame)
                | (refine wpu_sliceLH rfl rfl rfl rfl rfl (by first | rfl | omega) (by first | rfl | omega) (by omega) (by omega) ?_; go_frame))
              | ((with_reducible refine at_append ?_); refine wpu_append1 G rfl rfl rfl rfl (by rfl) (by rfl) (by unfold maxLen; omega) (by omega) ?_; clear G; intro v w G; obtain ⟨yo, yc, rfl, j3, j4⟩ := G.hdr v; go_frame)
              | fail)
            rw [Exit.noGoto_ret]
            try simp only [Exit.inBlock, Exit.then]
            refine bodyPost_ret (results2 rfl (by first | exact resT rfl | exact resB G rfl (by rfl) | exact resO G rfl rfl) (by first | exact resT rfl | exact resB G rfl (by rfl) | exact resO G rfl rfl)) rfl ?_
            exact ⟨_, _, next_end (n := 0) (l := M.map Prod.snd) hc9 HQ.out hno' HY.out (by simp [Sc.amount]) (fun h => absurd h.1 (by simp)) (by simp [Fl.last]) HM'.out, rfl, send_end { s with q := M.map Prod.snd, win := s.win - 0 } G (by simp [scCs]) rfl hct⟩
        · by_cases h0 : 0 < fo
          · have d1 : decide (0 < fo) = true := by simp [h0]
            have d2 : (fo == 0) = false := by simp; omega
            have d2' : decide (fo = 0) = false := by simp; omega
            have hb : (decide (0 < fw) = true ∧ decide (0 < s.win) = false) ∨ decide (0 < fw) = false := by
              simp only [Fl.ready, d1, d2', Bool.true_and, Bool.false_and, Bool.or_false, Bool.and_eq_true, decide_eq_true_eq] at hrdy
              simp
              omega
            have HN := Lib.hid hrdy
            clear hrdy
            rcases hb with ⟨d3, d4⟩ | d3
            all_goals
              as_aux_lemma =>
              go_wp2_with (first
                | ((with_reducible refine at_alloc ?_); refine wpu_new G ?_; clear G; intro w G)
                | ((with_reducible refine at_drew ?_); refine wpu_drew G ?_; clear G; intro w G)
                | ((with_reducible refine at_load ?_); first
                  | (refine wpu_load G rfl rfl rfl rfl ?_; go_frame)
                  | (refine wpu_loadB G rfl rfl rfl (by rfl) ?_; go_frame)
                  | (refine wpu_loadS G rfl rfl rfl (by rfl) ?_; simp only [List.drop_succ_cons, List.drop_zero, List.take_succ_cons, List.take_zero]; go_frame))
                | ((with_reducible refine at_store ?_); first
                  | (refine wpu_store G rfl rfl rfl rfl (by first | rfl | assumption | simp [*]) rfl ?_; clear G; intro w G; go_frame)
                  | (refine wpu_storeB G rfl rfl rfl rfl (by rfl) (by rfl) (by first | rfl | assumption | simp [*]) ?_; clear G; intro w G; go_frame)
                  | (refine wpu_storeS G rfl rfl rfl rfl (by rfl) (by rfl) (by first | rfl | assumption | simp [*]) ?_; clear G; intro w G; go_frame))
                | ((with_reducible refine at_convert ?_); refine wpu_str G rfl rfl rfl rfl ?_; go_frame)
                | ((with_reducible refine at_slice ?_); first
                  | (refine wpu_sliceLo rfl rfl rfl rfl (by first | rfl | omega) (by omega) (by omega) ?_; go_frame)
                  | (refine wpu_sliceLH rfl rfl rfl rfl rfl (by first | rfl | omega) (by first | rfl | omega) (by omega) (by omega) ?_; go_frame))
                | ((with_reducible refine at_load ?_); refine wpu_loadC (G.rd (.slice (some ad) L.length qc) _ G) HP.out rfl rfl rfl ?_; go_frame)
                | fail)
              go_roundw
              case rel => exact ⟨L1 ++ [(b, ⟨fi, fw, fo, ff⟩)], L2, rfl, rfl, by rw [HLL.out]; simp, by simp, fun x hx => by (rcases List.mem_append.1 hx with hx | hx; exact hno x hx; rw [List.mem_singleton.1 hx]; simpa using HN.out), by rw [HF.out]; exact G⟩
              case measure => simp [intOf] <;> omega
          · have hfo : fo = 0 := by omega
            subst hfo
            have hff : ff = false := by
              cases ff
              · rfl
              · exact absurd (by simp [Fl.ready]) hrdy
            subst hff
            have HN := Lib.hid hrdy
            clear hrdy
            as_aux_lemma =>
            go_wp2_with (first
              | ((with_reducible refine at_alloc ?_); refine wpu_new G ?_; clear G; intro w G)
              | ((with_reducible refine at_drew ?_); refine wpu_drew G ?_; clear G; intro w G)
              | ((with_reducible refine at_load ?_); first
                | (refine wpu_load G rfl rfl rfl rfl ?_; go_frame)
                | (refine wpu_loadB G rfl rfl rfl (by rfl) ?_; go_frame)
                | (refine wpu_loadS G rfl rfl rfl (by rfl) ?_; simp only [List.drop_succ_cons, List.drop_zero, List.take_succ_cons, List.take_zero]; go_frame))
              | ((with_reducible refine at_store ?_); first
                | (refine wpu_store G rfl rfl rfl rfl (by first | rfl | assumption | simp [*]) rfl ?_; clear G; intro w G; go_frame)
                | (refine wpu_storeB G rfl rfl rfl rfl (by rfl) (by rfl) (by first | rfl | assumption | simp [*]) ?_; clear G; intro w G; go_frame)
                | (refine wpu_storeS G rfl rfl rfl rfl (by rfl) (by rfl) (by first | rfl | assumption | simp [*]) ?_; clear G; intro w G; go_frame))
              | ((with_reducible refine at_convert ?_); refine wpu_str G rfl rfl rfl rfl ?_; go_frame)
              | ((with_reducible refine at_slice ?_); first
                | (refine wpu_sliceLo rfl rfl rfl rfl (by first | rfl | omega) (by omega) (by omega) ?_; go_frame)
                | (refine wpu_sliceLH rfl rfl rfl rfl rfl (by first | rfl | omega) (by first | rfl | omega) (by omega) (by omega) ?_; go_frame))
              | ((with_reducible refine at_load ?_); refine wpu_loadC (G.rd (.slice (some ad) L.length qc) _ G) HP.out rfl rfl rfl ?_; go_frame)
              | fail)
            go_roundw
            case rel => exact ⟨L1 ++ [(b, ⟨fi, fw, 0, false⟩)], L2, rfl, rfl, by rw [HLL.out]; simp, by simp, fun x hx => by (rcases List.mem_append.1 hx with hx | hx; exact hno x hx; rw [List.mem_singleton.1 hx]; simpa using HN.out), by rw [HF.out]; exact G⟩
            case measure => simp [intOf] <;> omega
end
end Go.Proofs.Ytbekaeahedkeoaa
