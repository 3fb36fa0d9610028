
/-
  A scheduler: Put, Grant, Wait.
-/
import Derived.Test.YtbekaeahedkeoaaSchOps
namespace Go.Proofs.Ytbekaeahedkeoaa
open Go.RowKit Go.Sl

theorem row_split {L : List (Nat × Fl)} {l1 l2 : List Fl} {f : Fl} (h : L.map Prod.snd = l1 ++ f :: l2) : ∃ L1 b L2, L = L1 ++ (b, f) :: L2 ∧ L1.map Prod.snd = l1 ∧ L2.map Prod.snd = l2 := by
  obtain ⟨L1, L', rfl, h1, h2⟩ := List.map_eq_append_iff.1 h
  obtain ⟨⟨b, g⟩, L2, rfl, h3, h4⟩ := List.map_eq_cons_iff.1 h2
  cases h3
  exact ⟨L1, b, L2, rfl, h1, h4⟩

section
variable {B w : World} {A R : Assn} {a : Nat} {s : Sc}

theorem sch_turn {b : Nat} {vc vq : Value} {L L1 L2 : List (Nat × Fl)} {l1 l2 : List Fl} {C : List (Value × List UInt8)} {cs ds : List Value} {f f' : Fl} (s' : Sc)
    (G : Own B (blk a cs * (sl 1 vc C.length (C.map Prod.fst) * (sl 1 vq L.length (ptrs L) * (ctA C * (blk b ds * flA (L1 ++ L2) * R))))) w) (hL : L = L1 ++ (b, f) :: L2) (hc : cs = scCs vc vq s') (hd : ds = f'.cs) (h1 : L1.map Prod.snd = l1) (h2 : L2.map Prod.snd = l2)
    (hq : s'.q = l1 ++ f' :: l2) (hC : C.map Prod.snd = s'.ctl) : Own B (schA a s' * R) w := by
  refine sch_close (vc := vc) (vq := vq) (L := L1 ++ (b, f') :: L2) (C := C) s' (G.eq ?_) hc (by simp [h1, h2, hq]) hC
  subst hL
  rw [flA_at, hd]
  have e1 : ptrs (L1 ++ (b, f') :: L2) = ptrs (L1 ++ (b, f) :: L2) := by simp [ptrs]
  have e2 : (L1 ++ (b, f') :: L2).length = (L1 ++ (b, f) :: L2).length := by simp
  rw [e1, e2]




set_option maxRecDepth 100000 in
theorem putC {id n : Int} {en : Bool} {l1 l2 : List Fl} {f : Fl} (h : Own B (schA a s * R) w) (hq : s.q = l1 ++ f :: l2) (hid : f.id = id) (hne : ∀ x ∈ l1, x.id ≠ id) (hf : f.fin = false) (h0 : 0 ≤ f.wait) (h1 : 0 ≤ n) (h2 : f.wait + n ≤ 2147483647) :
    Calls Try.prog 17 #[.pointer (some ⟨a, 0, none⟩), .int .i64 id, .int .i64 n, .bool en] w fun e w' => e = .returned (.int .i64 0) ∧ Own B (schA a { s with q := l1 ++ { f with wait := f.wait + n, fin := en } :: l2 } * R) w' := by
  obtain ⟨vc, vq, L, C, hL, hC, G⟩ := sch_open h
  have o1 := (G.rd vc _ G).one
  obtain ⟨qo, qc, rfl, i1, i2⟩ := G.hdr vq
  unfold maxLen at i2
  obtain ⟨L1, b, L2, hLL, hL1, hL2⟩ := row_split (hL.trans hq)
  have hlen : L1.length < L.length := by rw [hLL]; simp
  obtain ⟨ad, rfl⟩ := rd_some (G.rd (.slice qo L.length qc) _ G) (by omega)
  have hpl : placeI id (L.map Prod.snd) = L1.length := by rw [hL, hq, placeI_at hid hne, ← hL1]; simp
  have HI := Lib.hid hpl
  have HP : Hid ((ptrs L)[L1.length]? = some (.pointer (some ⟨b, 0, none⟩))) := Lib.hid (by rw [hLL]; simp [ptrs])
  have HF : Hid (flA L = blk b f.cs * flA (L1 ++ L2)) := Lib.hid (by rw [hLL, flA_at])
  have HL := Lib.hid hLL
  have HL1 := Lib.hid hL1
  have HL2 := Lib.hid hL2
  have HQ := Lib.hid hq
  clear hLL hL1 hL2 hq hpl hL hne
  obtain ⟨fi, fw, fo, ff⟩ := f
  simp only at hid hf h0 h2
  subst hf hid
  go_enter Try.func17, Try.ntmps17
  go_wp2_with fail
  refine Calls.mono (atC G) ?_
  clear G; rintro e w ⟨rfl, G⟩
  rw [HI.out]
  rw [HF.out] at G
  simp only [scCs, Fl.cs] at G
  go_wp2_with (first
    | ((with_reducible refine at_alloc ?_); refine wpu_new G ?_; clear G; intro w G)
    | ((with_reducible refine at_drew ?_); refine wpu_drew G ?_; clear G; intro w G)
    | ((with_reducible refine at_load ?_); first
      | (refine wpu_load G rfl rfl rfl rfl ?_; go_frame)
      | (refine wpu_loadB G rfl rfl rfl (by rfl) ?_; go_frame)
      | (refine wpu_loadS G rfl rfl rfl (by rfl) ?_; simp only [List.drop_succ_cons, List.drop_zero, List.take_succ_cons, List.take_zero]; go_frame))
    | ((with_reducible refine at_store ?_); first
      | (refine wpu_store G rfl rfl rfl rfl (by first | rfl | assumption | simp [*]) rfl ?_; clear G; intro w G; go_frame)
      | (refine wpu_storeB G rfl rfl rfl rfl (by rfl) (by rfl) (by first | rfl | assumption | simp [*]) ?_; clear G; intro w G; go_frame)
      | (refine wpu_storeS G rfl rfl rfl rfl (by rfl) (by rfl) (by first | rfl | assumption | simp [*]) ?_; clear G; intro w G; go_frame))
    | ((with_reducible refine at_convert ?_); refine wpu_str G rfl rfl rfl rfl ?_; go_frame)
    | ((with_reducible refine at_slice ?_); first
      | (refine wpu_sliceLo rfl rfl rfl rfl (by first | rfl | omega) (by omega) (by omega) ?_; go_frame)
      | (refine wpu_sliceLH rfl rfl rfl rfl rfl (by first | rfl | omega) (by first | rfl | omega) (by omega) (by omega) ?_; go_frame))
    | ((with_reducible refine at_load ?_); refine wpu_loadC (G.rd (.slice (some ad) L.length qc) _ G) HP.out rfl rfl rfl ?_; go_frame)
    | fail)
  go_ret
  exact ⟨rfl, sch_turn { s with q := l1 ++ ⟨fi, fw, fo + n, en⟩ :: l2 } G HL.out rfl rfl HL1.out HL2.out rfl hC⟩

set_option maxRecDepth 100000 in
theorem waitC {id : Int} {l1 l2 : List Fl} {f : Fl} (h : Own B (schA a s * R) w) (hq : s.q = l1 ++ f :: l2) (hid : f.id = id) (hne : ∀ x ∈ l1, x.id ≠ id) :
    Calls Try.prog 13 #[.pointer (some ⟨a, 0, none⟩), .int .i64 id] w fun e w' => e = .returned (.tuple #[.int .i64 f.wait, .int .i64 f.win, .bool true]) ∧ Own B (schA a s * R) w' := by
  obtain ⟨vc, vq, L, C, hL, hC, G⟩ := sch_open h
  have o1 := (G.rd vc _ G).one
  obtain ⟨qo, qc, rfl, i1, i2⟩ := G.hdr vq
  unfold maxLen at i2
  obtain ⟨L1, b, L2, hLL, hL1, hL2⟩ := row_split (hL.trans hq)
  have hlen : L1.length < L.length := by rw [hLL]; simp
  obtain ⟨ad, rfl⟩ := rd_some (G.rd (.slice qo L.length qc) _ G) (by omega)
  have hpl : placeI id (L.map Prod.snd) = L1.length := by rw [hL, hq, placeI_at hid hne, ← hL1]; simp
  have HI := Lib.hid hpl
  have HP : Hid ((ptrs L)[L1.length]? = some (.pointer (some ⟨b, 0, none⟩))) := Lib.hid (by rw [hLL]; simp [ptrs])
  have HF : Hid (flA L = blk b f.cs * flA (L1 ++ L2)) := Lib.hid (by rw [hLL, flA_at])
  have HL := Lib.hid hLL
  have HL1 := Lib.hid hL1
  have HL2 := Lib.hid hL2
  have HQ := Lib.hid hq
  clear hLL hL1 hL2 hq hpl hL hne
  obtain ⟨fi, fw, fo, ff⟩ := f
  simp only at hid
  subst hid
  go_enter Try.func13, Try.ntmps13
  go_wp2_with fail
  refine Calls.mono (atC G) ?_
  clear G; rintro e w ⟨rfl, G⟩
  rw [HI.out]
  rw [HF.out] at G
  simp only [scCs, Fl.cs] at G
  go_wp2_with fail
  have hrd := G.rd (.slice (some ad) L.length qc)
  refine wp_region_calm (C := Own _ _) (by kernel_rfl) (by kernel_rfl) (own_drew G) ?_
  intro ι W hne hW hs
  have hrd := fun i => hrd _ (hW i)
  repeat (first | ((with_reducible refine atq_load ?_); first | (refine wpq_load hW rfl rfl rfl rfl ?_; go_frame) | (refine wpq_loadB hW rfl rfl rfl (by rfl) ?_; go_frame) | (refine wpq_loadS hW rfl rfl rfl (by rfl) ?_; simp only [List.drop_succ_cons, List.drop_zero, List.take_succ_cons, List.take_zero]; go_frame)) | ((with_reducible refine atq_load ?_); refine wpq_loadC hrd HP.out rfl rfl rfl ?_; go_frame) | go_big_quiet_step (fail))
  refine wpQuiet_nil ?_
  intro i
  have g := hW i
  generalize W i = wg at g ⊢
  clear hrd hs hW hne
  have G := g
  clear g
  go_wp2_with fail
  try simp only [Exit.inBlock, Exit.then]
  refine bodyPost_ret (results3 rfl (by first | exact resT rfl | exact resB G rfl (by rfl) | exact resO G rfl rfl) (by first | exact resT rfl | exact resB G rfl (by rfl) | exact resO G rfl rfl) (by first | exact resT rfl | exact resB G rfl (by rfl) | exact resO G rfl rfl)) rfl ?_
  exact ⟨rfl, sch_turn s G HL.out rfl rfl HL1.out HL2.out HQ.out hC⟩

set_option maxRecDepth 100000 in
theorem waitN {id : Int} (h : Own B (schA a s * R) w) (hne : ∀ x ∈ s.q, x.id ≠ id) :
    Calls Try.prog 13 #[.pointer (some ⟨a, 0, none⟩), .int .i64 id] w fun e w' => e = .returned (.tuple #[.int .i64 0, .int .i64 0, .bool false]) ∧ Own B (schA a s * R) w' := by
  obtain ⟨vc, vq, L, C, hL, hC, G⟩ := sch_open h
  have HP : Hid (placeI id (L.map Prod.snd) = -1) := Lib.hid (by rw [hL]; exact placeI_none hne)
  go_enter Try.func13, Try.ntmps13
  go_wp2_with fail
  refine Calls.mono (atC G) ?_
  clear G; rintro e w ⟨rfl, G⟩
  rw [HP.out]
  go_wp2_with fail
  try simp only [Exit.inBlock, Exit.then]
  refine bodyPost_ret (results3 rfl (by first | exact resT rfl | exact resB G rfl (by rfl) | exact resO G rfl rfl) (by first | exact resT rfl | exact resB G rfl (by rfl) | exact resO G rfl rfl) (by first | exact resT rfl | exact resB G rfl (by rfl) | exact resO G rfl rfl)) rfl ?_
  exact ⟨rfl, sch_close s G rfl hL hC⟩

set_option maxRecDepth 100000 in
theorem grant0 {n : Int} (h : Own B (schA a s * R) w) (h0 : 0 ≤ n) (h1 : n ≤ 2147483647) (h2 : s.win + n ≤ 2147483647) (h3 : -2147483647 ≤ s.win) :
    Calls Try.prog 18 #[.pointer (some ⟨a, 0, none⟩), .int .i64 0, .int .i64 n] w fun e w' => e = .returned (.int .i64 0) ∧ Own B (schA a { s with win := s.win + n } * R) w' := by
  obtain ⟨vc, vq, L, C, hL, hC, G⟩ := sch_open h
  have o1 := (G.rd vc _ G).one
  have o2 := (G.rd vq _ G).one
  have c1 : decide (n < -4294967294) = false := by simp; omega
  have c2 : decide (4294967294 < n) = false := by simp; omega
  have b1 : decide (-2147483647 ≤ s.win + n) = true := by simp; omega
  have b2 : decide (s.win + n ≤ 2147483647) = true := by simp; omega
  simp only [scCs] at G
  go_enter Try.func18, Try.ntmps18
  go_wp2_with (first
    | ((with_reducible refine at_alloc ?_); refine wpu_new G ?_; clear G; intro w G)
    | ((with_reducible refine at_drew ?_); refine wpu_drew G ?_; clear G; intro w G)
    | ((with_reducible refine at_load ?_); first
      | (refine wpu_load G rfl rfl rfl rfl ?_; go_frame)
      | (refine wpu_loadB G rfl rfl rfl (by rfl) ?_; go_frame)
      | (refine wpu_loadS G rfl rfl rfl (by rfl) ?_; simp only [List.drop_succ_cons, List.drop_zero, List.take_succ_cons, List.take_zero]; go_frame))
    | ((with_reducible refine at_store ?_); first
      | (refine wpu_store G rfl rfl rfl rfl (by first | rfl | assumption | simp [*]) rfl ?_; clear G; intro w G; go_frame)
      | (refine wpu_storeB G rfl rfl rfl rfl (by rfl) (by rfl) (by first | rfl | assumption | simp [*]) ?_; clear G; intro w G; go_frame)
      | (refine wpu_storeS G rfl rfl rfl rfl (by rfl) (by rfl) (by first | rfl | assumption | simp [*]) ?_; clear G; intro w G; go_frame))
    | ((with_reducible refine at_convert ?_); refine wpu_str G rfl rfl rfl rfl ?_; go_frame)
    | ((with_reducible refine at_slice ?_); first
      | (refine wpu_sliceLo rfl rfl rfl rfl (by first | rfl | omega) (by omega) (by omega) ?_; go_frame)
      | (refine wpu_sliceLH rfl rfl rfl rfl rfl (by first | rfl | omega) (by first | rfl | omega) (by omega) (by omega) ?_; go_frame))
    | fail)
  refine Calls.mono (wideC G) ?_
  clear G; rintro e w ⟨rfl, G⟩
  rw [b1, b2]
  go_wp2_with (first
    | ((with_reducible refine at_alloc ?_); refine wpu_new G ?_; clear G; intro w G)
    | ((with_reducible refine at_drew ?_); refine wpu_drew G ?_; clear G; intro w G)
    | ((with_reducible refine at_load ?_); first
      | (refine wpu_load G rfl rfl rfl rfl ?_; go_frame)
      | (refine wpu_loadB G rfl rfl rfl (by rfl) ?_; go_frame)
      | (refine wpu_loadS G rfl rfl rfl (by rfl) ?_; simp only [List.drop_succ_cons, List.drop_zero, List.take_succ_cons, List.take_zero]; go_frame))
    | ((with_reducible refine at_store ?_); first
      | (refine wpu_store G rfl rfl rfl rfl (by first | rfl | assumption | simp [*]) rfl ?_; clear G; intro w G; go_frame)
      | (refine wpu_storeB G rfl rfl rfl rfl (by rfl) (by rfl) (by first | rfl | assumption | simp [*]) ?_; clear G; intro w G; go_frame)
      | (refine wpu_storeS G rfl rfl rfl rfl (by rfl) (by rfl) (by first | rfl | assumption | simp [*]) ?_; clear G; intro w G; go_frame))
    | ((with_reducible refine at_convert ?_); refine wpu_str G rfl rfl rfl rfl ?_; go_frame)
    | ((with_reducible refine at_slice ?_); first
      | (refine wpu_sliceLo rfl rfl rfl rfl (by first | rfl | omega) (by omega) (by omega) ?_; go_frame)
      | (refine wpu_sliceLH rfl rfl rfl rfl rfl (by first | rfl | omega) (by first | rfl | omega) (by omega) (by omega) ?_; go_frame))
    | fail)
  go_ret
  exact ⟨rfl, sch_close { s with win := s.win + n } G rfl hL hC⟩

set_option maxRecDepth 100000 in
theorem grantC {id n : Int} {l1 l2 : List Fl} {f : Fl} (h : Own B (schA a s * R) w) (hq : s.q = l1 ++ f :: l2) (hid : f.id = id) (hne : ∀ x ∈ l1, x.id ≠ id) (hz : id ≠ 0) (h0 : 0 ≤ n) (h1 : n ≤ 2147483647) (h2 : f.win + n ≤ 2147483647) (h3 : -2147483647 ≤ f.win) :
    Calls Try.prog 18 #[.pointer (some ⟨a, 0, none⟩), .int .i64 id, .int .i64 n] w fun e w' => e = .returned (.int .i64 0) ∧ Own B (schA a { s with q := l1 ++ { f with win := f.win + n } :: l2 } * R) w' := by
  obtain ⟨vc, vq, L, C, hL, hC, G⟩ := sch_open h
  have o1 := (G.rd vc _ G).one
  obtain ⟨qo, qc, rfl, i1, i2⟩ := G.hdr vq
  unfold maxLen at i2
  obtain ⟨L1, b, L2, hLL, hL1, hL2⟩ := row_split (hL.trans hq)
  have hlen : L1.length < L.length := by rw [hLL]; simp
  obtain ⟨ad, rfl⟩ := rd_some (G.rd (.slice qo L.length qc) _ G) (by omega)
  have hpl : placeI id (L.map Prod.snd) = L1.length := by rw [hL, hq, placeI_at hid hne, ← hL1]; simp
  have HI := Lib.hid hpl
  have HP : Hid ((ptrs L)[L1.length]? = some (.pointer (some ⟨b, 0, none⟩))) := Lib.hid (by rw [hLL]; simp [ptrs])
  have HF : Hid (flA L = blk b f.cs * flA (L1 ++ L2)) := Lib.hid (by rw [hLL, flA_at])
  have HL := Lib.hid hLL
  have HL1 := Lib.hid hL1
  have HL2 := Lib.hid hL2
  have HQ := Lib.hid hq
  clear hLL hL1 hL2 hq hpl hL hne
  obtain ⟨fi, fw, fo, ff⟩ := f
  simp only at hid h2 h3
  subst hid
  have c1 : decide (n < -4294967294) = false := by simp; omega
  have c2 : decide (4294967294 < n) = false := by simp; omega
  have b1 : decide (-2147483647 ≤ fw + n) = true := by simp; omega
  have b2 : decide (fw + n ≤ 2147483647) = true := by simp; omega
  go_enter Try.func18, Try.ntmps18
  go_wp2_with fail
  refine Calls.mono (atC G) ?_
  clear G; rintro e w ⟨rfl, G⟩
  rw [HI.out]
  rw [HF.out] at G
  simp only [scCs, Fl.cs] at G
  go_wp2_with (first
    | ((with_reducible refine at_alloc ?_); refine wpu_new G ?_; clear G; intro w G)
    | ((with_reducible refine at_drew ?_); refine wpu_drew G ?_; clear G; intro w G)
    | ((with_reducible refine at_load ?_); first
      | (refine wpu_load G rfl rfl rfl rfl ?_; go_frame)
      | (refine wpu_loadB G rfl rfl rfl (by rfl) ?_; go_frame)
      | (refine wpu_loadS G rfl rfl rfl (by rfl) ?_; simp only [List.drop_succ_cons, List.drop_zero, List.take_succ_cons, List.take_zero]; go_frame))
    | ((with_reducible refine at_store ?_); first
      | (refine wpu_store G rfl rfl rfl rfl (by first | rfl | assumption | simp [*]) rfl ?_; clear G; intro w G; go_frame)
      | (refine wpu_storeB G rfl rfl rfl rfl (by rfl) (by rfl) (by first | rfl | assumption | simp [*]) ?_; clear G; intro w G; go_frame)
      | (refine wpu_storeS G rfl rfl rfl rfl (by rfl) (by rfl) (by first | rfl | assumption | simp [*]) ?_; clear G; intro w G; go_frame))
    | ((with_reducible refine at_convert ?_); refine wpu_str G rfl rfl rfl rfl ?_; go_frame)
    | ((with_reducible refine at_slice ?_); first
      | (refine wpu_sliceLo rfl rfl rfl rfl (by first | rfl | omega) (by omega) (by omega) ?_; go_frame)
      | (refine wpu_sliceLH rfl rfl rfl rfl rfl (by first | rfl | omega) (by first | rfl | omega) (by omega) (by omega) ?_; go_frame))
    | ((with_reducible refine at_load ?_); refine wpu_loadC (G.rd (.slice (some ad) L.length qc) _ G) HP.out rfl rfl rfl ?_; go_frame)
    | fail)
  refine Calls.mono (wideC G) ?_
  clear G; rintro e w ⟨rfl, G⟩
  rw [b1, b2]
  go_wp2_with (first
    | ((with_reducible refine at_alloc ?_); refine wpu_new G ?_; clear G; intro w G)
    | ((with_reducible refine at_drew ?_); refine wpu_drew G ?_; clear G; intro w G)
    | ((with_reducible refine at_load ?_); first
      | (refine wpu_load G rfl rfl rfl rfl ?_; go_frame)
      | (refine wpu_loadB G rfl rfl rfl (by rfl) ?_; go_frame)
      | (refine wpu_loadS G rfl rfl rfl (by rfl) ?_; simp only [List.drop_succ_cons, List.drop_zero, List.take_succ_cons, List.take_zero]; go_frame))
    | ((with_reducible refine at_store ?_); first
      | (refine wpu_store G rfl rfl rfl rfl (by first | rfl | assumption | simp [*]) rfl ?_; clear G; intro w G; go_frame)
      | (refine wpu_storeB G rfl rfl rfl rfl (by rfl) (by rfl) (by first | rfl | assumption | simp [*]) ?_; clear G; intro w G; go_frame)
      | (refine wpu_storeS G rfl rfl rfl rfl (by rfl) (by rfl) (by first | rfl | assumption | simp [*]) ?_; clear G; intro w G; go_frame))
    | ((with_reducible refine at_convert ?_); refine wpu_str G rfl rfl rfl rfl ?_; go_frame)
    | ((with_reducible refine at_slice ?_); first
      | (refine wpu_sliceLo rfl rfl rfl rfl (by first | rfl | omega) (by omega) (by omega) ?_; go_frame)
      | (refine wpu_sliceLH rfl rfl rfl rfl rfl (by first | rfl | omega) (by first | rfl | omega) (by omega) (by omega) ?_; go_frame))
    | ((with_reducible refine at_load ?_); refine wpu_loadC (G.rd (.slice (some ad) L.length qc) _ G) HP.out rfl rfl rfl ?_; go_frame)
    | fail)
  go_ret
  exact ⟨rfl, sch_turn { s with q := l1 ++ ⟨fi, fw + n, fo, ff⟩ :: l2 } G HL.out rfl rfl HL1.out HL2.out rfl hC⟩

set_option maxRecDepth 100000 in
theorem grantN {id n : Int} (h : Own B (schA a s * R) w) (hne : ∀ x ∈ s.q, x.id ≠ id) (hz : id ≠ 0) :
    Calls Try.prog 18 #[.pointer (some ⟨a, 0, none⟩), .int .i64 id, .int .i64 n] w fun e w' => e = .returned (.int .i64 6) ∧ Own B (schA a s * R) w' := by
  obtain ⟨vc, vq, L, C, hL, hC, G⟩ := sch_open h
  have HP : Hid (placeI id (L.map Prod.snd) = -1) := Lib.hid (by rw [hL]; exact placeI_none hne)
  go_enter Try.func18, Try.ntmps18
  go_wp2_with fail
  refine Calls.mono (atC G) ?_
  clear G; rintro e w ⟨rfl, G⟩
  rw [HP.out]
  go_wp2_with fail
  go_ret
  exact ⟨rfl, sch_close s G rfl hL hC⟩
end
end Go.Proofs.Ytbekaeahedkeoaa
