

/-
  Package fields: numbers of so many digits; a message's length.
-/
import Derived.Test.YtnjldofiogbolaaDoorFm2
namespace Go.Proofs.YtnjldofiogbolaaDoor
open Go.RowKit Go.Sl Go.ChangeShapes

def numV (o : Option Nat) : Value := .tuple #[.int .i64 (o.getD 0 : Nat), .bool o.isSome]


set_option maxHeartbeats 8000000 in
set_option maxRecDepth 100000 in
theorem digitsC {B w : World} {A : Assn} {s : Txt} {a b : Nat} (ha : 1 ≤ a) (hb : b ≤ 15) (h : Own B A w) :
    Calls Tryd.prog 21 #[str s, .int .i64 a, .int .i64 b] w fun e w' => e = .returned (numV (digitsR s a b)) ∧ Own B A w' := by
  by_cases h1 : a ≤ s.length
  · have y1 : decide ((s.length : Int) < (a : Int)) = false := by simp; omega
    have y2 : decide (s.length < a) = false := by simp; omega
    by_cases h2 : s.length ≤ b
    · have y3 : decide ((b : Int) < (s.length : Int)) = false := by simp; omega
      have y4 : decide (b < s.length) = false := by simp; omega
      by_cases h3 : s.all digit = true
      · have HB : Hid (digitsR s a b = some (numR s)) := Lib.hid (by unfold digitsR; rw [if_pos ⟨h1, h2, h3⟩])
        have g : decide (Lib.trimS s digitsL = []) = true := decide_eq_true ((trim_nil s).2 h3)
        have hat := fun (w : World) (h : Own B A w) => atoiC (s := s) (by omega) (by omega) h3 h
        clear h3
        go_enter Tryd.func21, Tryd.ntmps21
        go_wp2_with (first
          | (go_at_call 35; refine Calls.mono (trimDC (by omega) h) ?_; clear h; rintro e w ⟨rfl, h⟩)
          | ((with_reducible refine at_neS ?_); refine wpu_neS rfl (by kernel_rfl) rfl rfl g ?_; go_frame)
          | fail)
        refine Calls.mono (hat _ h) ?_
        clear h; rintro e w ⟨rfl, h⟩
        have hmf : ∀ (w : World), (binOp .eql 67 .nilIface .nilIface).run Tryd.prog w = .ok (.bool true) w := fun w => by kernel_rfl
        go_wp2_with fail
        refine wp_region_calm (C := Own _ _) (by kernel_rfl) (by kernel_rfl) (own_drew h) ?_
        intro ι W hne hW hs
        repeat (first | ((with_reducible refine atq_load ?_); first | (refine wpq_load hW rfl rfl rfl rfl ?_; go_frame) | (refine wpq_loadB hW rfl rfl rfl (by rfl) ?_; go_frame) | (refine wpq_loadS hW rfl rfl rfl (by rfl) ?_; simp only [List.drop_succ_cons, List.drop_zero, List.take_succ_cons, List.take_zero]; go_frame)) | (fail) | go_big_quiet_step (fail))
        refine wpQuiet_nil ?_
        intro i
        have h := hW i
        generalize W i = wh at h ⊢
        clear  hs hW hne
        go_wp2_with fail
        try simp only [Exit.inBlock, Exit.then]
        refine bodyPost_ret (results2 rfl (by first | exact resT rfl | exact resB G rfl (by rfl) | exact resO G rfl rfl) (by first | exact resT rfl | exact resB G rfl (by rfl) | exact resO G rfl rfl)) rfl ?_
        exact ⟨by rw [HB.out]; rfl, h⟩
      · have HB : Hid (digitsR s a b = none) := Lib.hid (by unfold digitsR; rw [if_neg fun e => h3 e.2.2])
        have g : decide (Lib.trimS s digitsL = []) = false := decide_eq_false fun e => h3 ((trim_nil s).1 e)
        clear h3
        skip
        as_aux_lemma =>
        go_enter Tryd.func21, Tryd.ntmps21
        go_wp2_with (first
          | (go_at_call 35; refine Calls.mono (trimDC (by omega) h) ?_; clear h; rintro e w ⟨rfl, h⟩)
          | ((with_reducible refine at_neS ?_); refine wpu_neS rfl (by kernel_rfl) rfl rfl (by assumption) ?_; go_frame)
          | fail)
        try simp only [Exit.inBlock, Exit.then]
        refine bodyPost_ret (results2 rfl (by first | exact resT rfl | exact resB G rfl (by rfl) | exact resO G rfl rfl) (by first | exact resT rfl | exact resB G rfl (by rfl) | exact resO G rfl rfl)) rfl ?_
        exact ⟨by rw [HB.out]; rfl, h⟩
    · have HB : Hid (digitsR s a b = none) := Lib.hid (by unfold digitsR; rw [if_neg fun e => h2 e.2.1])
      have y3 : decide ((b : Int) < (s.length : Int)) = true := by simp; omega
      have y4 : decide (b < s.length) = true := by simp; omega
      skip
      as_aux_lemma =>
      go_enter Tryd.func21, Tryd.ntmps21
      go_wp2_with (first
        | (go_at_call 35; refine Calls.mono (trimDC (by omega) h) ?_; clear h; rintro e w ⟨rfl, h⟩)
        | ((with_reducible refine at_neS ?_); refine wpu_neS rfl (by kernel_rfl) rfl rfl (by assumption) ?_; go_frame)
        | fail)
      try simp only [Exit.inBlock, Exit.then]
      refine bodyPost_ret (results2 rfl (by first | exact resT rfl | exact resB G rfl (by rfl) | exact resO G rfl rfl) (by first | exact resT rfl | exact resB G rfl (by rfl) | exact resO G rfl rfl)) rfl ?_
      exact ⟨by rw [HB.out]; rfl, h⟩
  · have HB : Hid (digitsR s a b = none) := Lib.hid (by unfold digitsR; rw [if_neg fun e => h1 e.1])
    have y1 : decide ((s.length : Int) < (a : Int)) = true := by simp; omega
    have y2 : decide (s.length < a) = true := by simp; omega
    skip
    as_aux_lemma =>
    go_enter Tryd.func21, Tryd.ntmps21
    go_wp2_with (first
      | (go_at_call 35; refine Calls.mono (trimDC (by omega) h) ?_; clear h; rintro e w ⟨rfl, h⟩)
      | ((with_reducible refine at_neS ?_); refine wpu_neS rfl (by kernel_rfl) rfl rfl (by assumption) ?_; go_frame)
      | fail)
    try simp only [Exit.inBlock, Exit.then]
    refine bodyPost_ret (results2 rfl (by first | exact resT rfl | exact resB G rfl (by rfl) | exact resO G rfl rfl) (by first | exact resT rfl | exact resB G rfl (by rfl) | exact resO G rfl rfl)) rfl ?_
    exact ⟨by rw [HB.out]; rfl, h⟩

/-! ### a message's length -/
instance tyMsgMap : TyMap Tryd.prog 49 9 9 := ⟨Tryd.underlying49, Tryd.underlying9, Tryd.underlying9, fun w => by kernel_rfl⟩
abbrev mapA (b : Nat) (M : List (Txt × Txt)) : Assn := strA Tryd.prog 9 9 b M

theorem own_mid {B w : World} {X Y R : Assn} (h : Own B (X * (Y * R)) w) : Own B (X * R) w := (h.eq (A' := Y * (X * R)) (by ac_rfl)).right
set_option maxHeartbeats 8000000 in
set_option maxRecDepth 100000 in
theorem lengthC {B w : World} {R : Assn} {f : Fd} {s : Ms} {b : Nat} (hv : f.2.1.length ≤ 1000000) (hM : s.map.length ≤ 1000000) (h : Own B (mapA b s.map * R) w) :
    Calls Tryd.prog 33 #[.int .i64 s.len, .agg #[str f.1, str f.2.1, .bool f.2.2], .map (some b)] w fun e w' =>
      match lengthR s f with
      | some s' => e = .returned (.int .i64 s'.len) ∧ Own B (mapA b s'.map * R) w'
      | none => e = .panicked [wrongE] ∧ Own B (mapA b s.map * R) w' := by
  obtain ⟨n, v, nv⟩ := f
  obtain ⟨len, M, last⟩ := s
  simp only at hv hM h ⊢
  obtain ⟨q, hq⟩ : ∃ q, decide (n = CL) = q := ⟨_, rfl⟩
  cases q
  · have HB : Hid (lengthR ⟨len, M, last⟩ (n, v, nv) = some ⟨len, M, last⟩) := Lib.hid (by unfold lengthR; rw [if_pos (by simpa using hq)])
    rw [HB.out]
    simp only
    go_enter Tryd.func33, Tryd.ntmps33
    go_wp2_with (first
      | ((with_reducible refine at_neS ?_); refine wpu_neS rfl (by kernel_rfl) rfl rfl hq ?_; go_frame)
      | fail)
    go_ret
    exact ⟨rfl, own_alloc h _⟩
  · have hn : n = CL := by simpa using hq
    have hnl : n.length ≤ maxLen := by rw [hn]; decide
    have hvl : v.length ≤ maxLen := by unfold maxLen; omega
    have hMl : M.length < maxLen := by unfold maxLen; omega
    obtain ⟨r, hr⟩ : ∃ r, (getM M n).getD [] = r := ⟨_, rfl⟩
    have HL0 : lengthR ⟨len, M, last⟩ (n, v, nv) = match digitsR v 1 15 with | none => none | some k => if len < 0 ∨ r = v then some ⟨k, (n, v) :: M, last⟩ else none := by
      unfold lengthR
      rw [if_neg (by simpa using hn)]
      simp only [← hn, hr]
      cases digitsR v 1 15 <;> rfl
    have HRM := Lib.hid hr
    have G := own_new h [str n, str v, .bool nv] 28
    clear h hn hr
    rcases hdg : digitsR v 1 15 with _ | k
    · have HB : Hid (lengthR ⟨len, M, last⟩ (n, v, nv) = none) := Lib.hid (by rw [HL0, hdg])
      have HD : Hid (numV (digitsR v 1 15) = .tuple #[.int .i64 0, .bool false]) := Lib.hid (by rw [hdg]; rfl)
      clear HL0 hdg
      rw [HB.out]
      simp only
      as_aux_lemma =>
      go_enter Tryd.func33, Tryd.ntmps33
      go_wp2_with (first
        | ((with_reducible refine at_neS ?_); refine wpu_neS rfl (by kernel_rfl) rfl rfl hq ?_; go_frame)
        | ((with_reducible refine at_alloc ?_); refine wpu_new G ?_; clear G; intro w G)
        | ((with_reducible refine at_drew ?_); refine wpu_drew G ?_; clear G; intro w G)
        | ((with_reducible refine at_load ?_); first
          | (refine wpu_load G rfl rfl rfl rfl ?_; go_frame)
          | (refine wpu_loadB G rfl rfl rfl (by rfl) ?_; go_frame)
          | (refine wpu_loadS G rfl rfl rfl (by rfl) ?_; simp only [List.drop_succ_cons, List.drop_zero, List.take_succ_cons, List.take_zero]; go_frame))
        | ((with_reducible refine at_store ?_); first
          | (refine wpu_store G rfl rfl rfl rfl (by first | rfl | assumption | simp [*]) rfl ?_; clear G; intro w G; go_frame)
          | (refine wpu_storeB G rfl rfl rfl rfl (by rfl) (by rfl) (by first | rfl | assumption | simp [*]) ?_; clear G; intro w G; go_frame)
          | (refine wpu_storeS G rfl rfl rfl rfl (by rfl) (by rfl) (by first | rfl | assumption | simp [*]) ?_; clear G; intro w G; go_frame))
        | ((with_reducible refine at_convert ?_); refine wpu_str G rfl rfl rfl rfl ?_; go_frame)
        | ((with_reducible refine at_slice ?_); first
          | (refine wpu_sliceLo rfl rfl rfl rfl (by first | rfl | omega) (by omega) (by omega) ?_; go_frame)
          | (refine wpu_sliceLH rfl rfl rfl rfl rfl (by first | rfl | omega) (by first | rfl | omega) (by omega) (by omega) ?_; go_frame))
        | fail)
      refine Calls.mono (digitsC (a := 1) (b := 15) (by decide) (by decide) G) ?_
      clear G; rintro e w ⟨rfl, G⟩
      rw [HD.out]
      go_wp2_with (first
        | (go_at_call 28; refine Calls.mono (mustF _) ?_; rintro e w ⟨rfl, rfl⟩)
        | fail)
      exact ⟨rfl, rfl, G.right⟩
    · have HD : Hid (numV (digitsR v 1 15) = .tuple #[.int .i64 (k : Int), .bool true]) := Lib.hid (by rw [hdg]; rfl)
      rw [hdg] at HL0
      simp only at HL0
      clear hdg
      by_cases hneg : len < 0
      · have HB : Hid (lengthR ⟨len, M, last⟩ (n, v, nv) = some ⟨k, (n, v) :: M, last⟩) := Lib.hid (by rw [HL0, if_pos (.inl hneg)])
        clear HL0
        rw [HB.out]
        simp only
        as_aux_lemma =>
        go_enter Tryd.func33, Tryd.ntmps33
        go_wp2_with (first
          | ((with_reducible refine at_neS ?_); refine wpu_neS rfl (by kernel_rfl) rfl rfl hq ?_; go_frame)
          | ((with_reducible refine at_alloc ?_); refine wpu_new G ?_; clear G; intro w G)
          | ((with_reducible refine at_drew ?_); refine wpu_drew G ?_; clear G; intro w G)
          | ((with_reducible refine at_load ?_); first
            | (refine wpu_load G rfl rfl rfl rfl ?_; go_frame)
            | (refine wpu_loadB G rfl rfl rfl (by rfl) ?_; go_frame)
            | (refine wpu_loadS G rfl rfl rfl (by rfl) ?_; simp only [List.drop_succ_cons, List.drop_zero, List.take_succ_cons, List.take_zero]; go_frame))
          | ((with_reducible refine at_store ?_); first
            | (refine wpu_store G rfl rfl rfl rfl (by first | rfl | assumption | simp [*]) rfl ?_; clear G; intro w G; go_frame)
            | (refine wpu_storeB G rfl rfl rfl rfl (by rfl) (by rfl) (by first | rfl | assumption | simp [*]) ?_; clear G; intro w G; go_frame)
            | (refine wpu_storeS G rfl rfl rfl rfl (by rfl) (by rfl) (by first | rfl | assumption | simp [*]) ?_; clear G; intro w G; go_frame))
          | ((with_reducible refine at_convert ?_); refine wpu_str G rfl rfl rfl rfl ?_; go_frame)
          | ((with_reducible refine at_slice ?_); first
            | (refine wpu_sliceLo rfl rfl rfl rfl (by first | rfl | omega) (by omega) (by omega) ?_; go_frame)
            | (refine wpu_sliceLH rfl rfl rfl rfl rfl (by first | rfl | omega) (by first | rfl | omega) (by omega) (by omega) ?_; go_frame))
          | fail)
        refine Calls.mono (digitsC (a := 1) (b := 15) (by decide) (by decide) G) ?_
        clear G; rintro e w ⟨rfl, G⟩
        rw [HD.out]
        go_wp2_with (first
          | ((with_reducible refine at_lookup ?_); refine wpu_strLook G rfl (by kernel_rfl) rfl rfl hnl HRM.out ?_; go_frame)
          | ((with_reducible refine at_eqS ?_); refine wpu_eqS rfl (by kernel_rfl) rfl rfl hrq ?_; go_frame)
          | (go_at_call 28; refine Calls.mono (mustT _) ?_; rintro e w ⟨rfl, rfl⟩)
          | ((with_reducible refine at_update ?_); refine wpu_strPut G rfl rfl rfl rfl rfl hnl hvl hMl ?_; clear G; intro w G; go_frame)
          | ((with_reducible refine at_alloc ?_); refine wpu_new G ?_; clear G; intro w G)
          | ((with_reducible refine at_drew ?_); refine wpu_drew G ?_; clear G; intro w G)
          | ((with_reducible refine at_load ?_); first
            | (refine wpu_load G rfl rfl rfl rfl ?_; go_frame)
            | (refine wpu_loadB G rfl rfl rfl (by rfl) ?_; go_frame)
            | (refine wpu_loadS G rfl rfl rfl (by rfl) ?_; simp only [List.drop_succ_cons, List.drop_zero, List.take_succ_cons, List.take_zero]; go_frame))
          | ((with_reducible refine at_store ?_); first
            | (refine wpu_store G rfl rfl rfl rfl (by first | rfl | assumption | simp [*]) rfl ?_; clear G; intro w G; go_frame)
            | (refine wpu_storeB G rfl rfl rfl rfl (by rfl) (by rfl) (by first | rfl | assumption | simp [*]) ?_; clear G; intro w G; go_frame)
            | (refine wpu_storeS G rfl rfl rfl rfl (by rfl) (by rfl) (by first | rfl | assumption | simp [*]) ?_; clear G; intro w G; go_frame))
          | ((with_reducible refine at_convert ?_); refine wpu_str G rfl rfl rfl rfl ?_; go_frame)
          | ((with_reducible refine at_slice ?_); first
            | (refine wpu_sliceLo rfl rfl rfl rfl (by first | rfl | omega) (by omega) (by omega) ?_; go_frame)
            | (refine wpu_sliceLH rfl rfl rfl rfl rfl (by first | rfl | omega) (by first | rfl | omega) (by omega) (by omega) ?_; go_frame))
          | fail)
        go_ret
        exact ⟨rfl, own_mid G⟩
      · have yn : decide (len < 0) = false := by simp; omega
        obtain ⟨q, hrq⟩ : ∃ q, decide (r = v) = q := ⟨_, rfl⟩
        cases q
        · have HB : Hid (lengthR ⟨len, M, last⟩ (n, v, nv) = none) := Lib.hid (by rw [HL0, if_neg (fun e => e.elim hneg (by simpa using hrq))])
          clear HL0
          rw [HB.out]
          simp only
          as_aux_lemma =>
          go_enter Tryd.func33, Tryd.ntmps33
          go_wp2_with (first
            | ((with_reducible refine at_neS ?_); refine wpu_neS rfl (by kernel_rfl) rfl rfl hq ?_; go_frame)
            | ((with_reducible refine at_alloc ?_); refine wpu_new G ?_; clear G; intro w G)
            | ((with_reducible refine at_drew ?_); refine wpu_drew G ?_; clear G; intro w G)
            | ((with_reducible refine at_load ?_); first
              | (refine wpu_load G rfl rfl rfl rfl ?_; go_frame)
              | (refine wpu_loadB G rfl rfl rfl (by rfl) ?_; go_frame)
              | (refine wpu_loadS G rfl rfl rfl (by rfl) ?_; simp only [List.drop_succ_cons, List.drop_zero, List.take_succ_cons, List.take_zero]; go_frame))
            | ((with_reducible refine at_store ?_); first
              | (refine wpu_store G rfl rfl rfl rfl (by first | rfl | assumption | simp [*]) rfl ?_; clear G; intro w G; go_frame)
              | (refine wpu_storeB G rfl rfl rfl rfl (by rfl) (by rfl) (by first | rfl | assumption | simp [*]) ?_; clear G; intro w G; go_frame)
              | (refine wpu_storeS G rfl rfl rfl rfl (by rfl) (by rfl) (by first | rfl | assumption | simp [*]) ?_; clear G; intro w G; go_frame))
            | ((with_reducible refine at_convert ?_); refine wpu_str G rfl rfl rfl rfl ?_; go_frame)
            | ((with_reducible refine at_slice ?_); first
              | (refine wpu_sliceLo rfl rfl rfl rfl (by first | rfl | omega) (by omega) (by omega) ?_; go_frame)
              | (refine wpu_sliceLH rfl rfl rfl rfl rfl (by first | rfl | omega) (by first | rfl | omega) (by omega) (by omega) ?_; go_frame))
            | fail)
          refine Calls.mono (digitsC (a := 1) (b := 15) (by decide) (by decide) G) ?_
          clear G; rintro e w ⟨rfl, G⟩
          rw [HD.out]
          go_wp2_with (first
            | ((with_reducible refine at_lookup ?_); refine wpu_strLook G rfl (by kernel_rfl) rfl rfl hnl HRM.out ?_; go_frame)
            | ((with_reducible refine at_eqS ?_); refine wpu_eqS rfl (by kernel_rfl) rfl rfl hrq ?_; go_frame)
            | (go_at_call 28; refine Calls.mono (mustF _) ?_; rintro e w ⟨rfl, rfl⟩)
            | ((with_reducible refine at_alloc ?_); refine wpu_new G ?_; clear G; intro w G)
            | ((with_reducible refine at_drew ?_); refine wpu_drew G ?_; clear G; intro w G)
            | ((with_reducible refine at_load ?_); first
              | (refine wpu_load G rfl rfl rfl rfl ?_; go_frame)
              | (refine wpu_loadB G rfl rfl rfl (by rfl) ?_; go_frame)
              | (refine wpu_loadS G rfl rfl rfl (by rfl) ?_; simp only [List.drop_succ_cons, List.drop_zero, List.take_succ_cons, List.take_zero]; go_frame))
            | ((with_reducible refine at_store ?_); first
              | (refine wpu_store G rfl rfl rfl rfl (by first | rfl | assumption | simp [*]) rfl ?_; clear G; intro w G; go_frame)
              | (refine wpu_storeB G rfl rfl rfl rfl (by rfl) (by rfl) (by first | rfl | assumption | simp [*]) ?_; clear G; intro w G; go_frame)
              | (refine wpu_storeS G rfl rfl rfl rfl (by rfl) (by rfl) (by first | rfl | assumption | simp [*]) ?_; clear G; intro w G; go_frame))
            | ((with_reducible refine at_convert ?_); refine wpu_str G rfl rfl rfl rfl ?_; go_frame)
            | ((with_reducible refine at_slice ?_); first
              | (refine wpu_sliceLo rfl rfl rfl rfl (by first | rfl | omega) (by omega) (by omega) ?_; go_frame)
              | (refine wpu_sliceLH rfl rfl rfl rfl rfl (by first | rfl | omega) (by first | rfl | omega) (by omega) (by omega) ?_; go_frame))
            | fail)
          exact ⟨rfl, rfl, G.right⟩
        · have HB : Hid (lengthR ⟨len, M, last⟩ (n, v, nv) = some ⟨k, (n, v) :: M, last⟩) := Lib.hid (by rw [HL0, if_pos (.inr (by simpa using hrq))])
          clear HL0
          rw [HB.out]
          simp only
          as_aux_lemma =>
          go_enter Tryd.func33, Tryd.ntmps33
          go_wp2_with (first
            | ((with_reducible refine at_neS ?_); refine wpu_neS rfl (by kernel_rfl) rfl rfl hq ?_; go_frame)
            | ((with_reducible refine at_alloc ?_); refine wpu_new G ?_; clear G; intro w G)
            | ((with_reducible refine at_drew ?_); refine wpu_drew G ?_; clear G; intro w G)
            | ((with_reducible refine at_load ?_); first
              | (refine wpu_load G rfl rfl rfl rfl ?_; go_frame)
              | (refine wpu_loadB G rfl rfl rfl (by rfl) ?_; go_frame)
              | (refine wpu_loadS G rfl rfl rfl (by rfl) ?_; simp only [List.drop_succ_cons, List.drop_zero, List.take_succ_cons, List.take_zero]; go_frame))
            | ((with_reducible refine at_store ?_); first
              | (refine wpu_store G rfl rfl rfl rfl (by first | rfl | assumption | simp [*]) rfl ?_; clear G; intro w G; go_frame)
              | (refine wpu_storeB G rfl rfl rfl rfl (by rfl) (by rfl) (by first | rfl | assumption | simp [*]) ?_; clear G; intro w G; go_frame)
              | (refine wpu_storeS G rfl rfl rfl rfl (by rfl) (by rfl) (by first | rfl | assumption | simp [*]) ?_; clear G; intro w G; go_frame))
            | ((with_reducible refine at_convert ?_); refine wpu_str G rfl rfl rfl rfl ?_; go_frame)
            | ((with_reducible refine at_slice ?_); first
              | (refine wpu_sliceLo rfl rfl rfl rfl (by first | rfl | omega) (by omega) (by omega) ?_; go_frame)
              | (refine wpu_sliceLH rfl rfl rfl rfl rfl (by first | rfl | omega) (by first | rfl | omega) (by omega) (by omega) ?_; go_frame))
            | fail)
          refine Calls.mono (digitsC (a := 1) (b := 15) (by decide) (by decide) G) ?_
          clear G; rintro e w ⟨rfl, G⟩
          rw [HD.out]
          go_wp2_with (first
            | ((with_reducible refine at_lookup ?_); refine wpu_strLook G rfl (by kernel_rfl) rfl rfl hnl HRM.out ?_; go_frame)
            | ((with_reducible refine at_eqS ?_); refine wpu_eqS rfl (by kernel_rfl) rfl rfl hrq ?_; go_frame)
            | (go_at_call 28; refine Calls.mono (mustT _) ?_; rintro e w ⟨rfl, rfl⟩)
            | ((with_reducible refine at_update ?_); refine wpu_strPut G rfl rfl rfl rfl rfl hnl hvl hMl ?_; clear G; intro w G; go_frame)
            | ((with_reducible refine at_alloc ?_); refine wpu_new G ?_; clear G; intro w G)
            | ((with_reducible refine at_drew ?_); refine wpu_drew G ?_; clear G; intro w G)
            | ((with_reducible refine at_load ?_); first
              | (refine wpu_load G rfl rfl rfl rfl ?_; go_frame)
              | (refine wpu_loadB G rfl rfl rfl (by rfl) ?_; go_frame)
              | (refine wpu_loadS G rfl rfl rfl (by rfl) ?_; simp only [List.drop_succ_cons, List.drop_zero, List.take_succ_cons, List.take_zero]; go_frame))
            | ((with_reducible refine at_store ?_); first
              | (refine wpu_store G rfl rfl rfl rfl (by first | rfl | assumption | simp [*]) rfl ?_; clear G; intro w G; go_frame)
              | (refine wpu_storeB G rfl rfl rfl rfl (by rfl) (by rfl) (by first | rfl | assumption | simp [*]) ?_; clear G; intro w G; go_frame)
              | (refine wpu_storeS G rfl rfl rfl rfl (by rfl) (by rfl) (by first | rfl | assumption | simp [*]) ?_; clear G; intro w G; go_frame))
            | ((with_reducible refine at_convert ?_); refine wpu_str G rfl rfl rfl rfl ?_; go_frame)
            | ((with_reducible refine at_slice ?_); first
              | (refine wpu_sliceLo rfl rfl rfl rfl (by first | rfl | omega) (by omega) (by omega) ?_; go_frame)
              | (refine wpu_sliceLH rfl rfl rfl rfl rfl (by first | rfl | omega) (by first | rfl | omega) (by omega) (by omega) ?_; go_frame))
            | fail)
          go_ret
          exact ⟨rfl, own_mid G⟩
end Go.Proofs.YtnjldofiogbolaaDoor
