
/-
  Package match: the document's calls; what the laws share.
-/
import Derived.Test.YtndlfieignhjjaaDoorMt6
namespace Go.Proofs.YtndlfieignhjjaaDoor
open Go.RowKit Go.Sl Go.ChangeShapes


theorem callB_none {q : Txt} (h : lastAt 47 q = none) : callB (47 :: q) = none := by simp [callB, h]
theorem callB_some {q : Txt} {i : Nat} (h : lastAt 47 q = some i) : callB (47 :: q) = if 1 ≤ i ∧ i + 1 ≠ q.length then some (q.take i, q.drop (i + 1)) else none := by simp [callB, h]

set_option maxHeartbeats 8000000 in
set_option maxRecDepth 100000 in
theorem callRefC {B w : World} {A : Assn} {p : Txt} (hp : p.length ≤ 1000000) (h : Own B A w) :
    Calls Tryd.prog 15 #[str p] w fun e w' => e = .returned (callV (callR p)) ∧ Own B A w' := by
  have hbl := bare_len p
  rw [call_bare]
  have hcall := bareRefC hp h
  obtain ⟨b, hb⟩ : ∃ b, bareL p = b := ⟨_, rfl⟩
  rw [hb] at hbl hcall ⊢
  clear hb
  go_enter Tryd.func15, Tryd.ntmps15
  go_wp2_with fail
  refine Calls.mono hcall ?_
  clear h hcall; rintro e w ⟨rfl, h⟩
  cases b with
  | nil =>
    as_aux_lemma =>
    have y1 : decide (([] : Txt) = []) = true := rfl
    go_wp2_with (first
      | ((with_reducible refine at_eqS ?_); refine wpu_eqS rfl (by kernel_rfl) rfl rfl (by first | assumption | rfl) ?_; go_frame)
      | fail)
    try simp only [Exit.inBlock, Exit.then]
    refine bodyPost_ret (results3 rfl (by first | exact resT rfl | exact resB G rfl (by rfl) | exact resO G rfl rfl) (by first | exact resT rfl | exact resB G rfl (by rfl) | exact resO G rfl rfl) (by first | exact resT rfl | exact resB G rfl (by rfl) | exact resO G rfl rfl)) rfl ?_
    exact ⟨rfl, h⟩
  | cons x q =>
    simp only [List.length_cons] at hbl
    have y1 : decide (x :: q = []) = false := by simp
    have HC0 : Hid ((x :: q)[0]? = some x) := Lib.hid rfl
    by_cases hx : x = 47
    · subst hx
      as_aux_lemma =>
      go_wp2_with (first
        | ((with_reducible refine at_strAt ?_); refine wpu_strAt (i := 0) (c := 47) rfl (by kernel_rfl) rfl rfl rfl HC0.out ?_; go_frame)
        | ((with_reducible refine at_eqS ?_); refine wpu_eqS rfl (by kernel_rfl) rfl rfl (by first | assumption | rfl) ?_; go_frame)
        | fail)
      go_loopw [6] (fun i wr => ∃ k : Nat, i = .int .i64 (k : Int) ∧ k ≤ q.length ∧ Hid (∀ j : Nat, k ≤ j → q[j]? ≠ some 47) ∧ Own B A wr) (fun i _ => (intOf i).toNat)
      case atStart => exact ⟨q.length, by go_num, Nat.le_refl _, Lib.hid (fun j hj hc => by have := (List.getElem?_eq_some_iff.1 hc).1; omega), h⟩
      case round =>
        clear h
        obtain ⟨k, rfl, hk, HA, G⟩ := hrel
        cases k with
        | zero =>
          have HB : Hid (callB (47 :: q) = none) := Lib.hid (by
            exact callB_none (lastAt_no fun j => HA.out j (Nat.zero_le _)))
          as_aux_lemma =>
          go_wp2_with fail
          try simp only [Exit.inBlock, Exit.then]
          refine bodyPost_ret (results3 rfl (by first | exact resT rfl | exact resB G rfl (by rfl) | exact resO G rfl rfl) (by first | exact resT rfl | exact resB G rfl (by rfl) | exact resO G rfl rfl) (by first | exact resT rfl | exact resB G rfl (by rfl) | exact resO G rfl rfl)) rfl ?_
          exact ⟨by rw [HB.out]; rfl, G⟩
        | succ j =>
          obtain ⟨c, hc⟩ : ∃ c, q[j]? = some c := ⟨q[j], List.getElem?_eq_getElem (by omega)⟩
          have HC : Hid ((47 :: q)[j + 1]? = some c) := Lib.hid (by simpa using hc)
          have ej : (((j + 1 : Nat)) : Int) = (j : Int) + 1 := by omega
          rw [ej]
          by_cases h47 : c = 47
          · subst h47
            have hla : lastAt 47 q = some j := lastAt_eq hc fun j' hj => HA.out j' (by omega)
            by_cases g1 : j = 0
            · have HB : Hid (callB (47 :: q) = none) := Lib.hid (by
                rw [callB_some hla]
                simp [g1])
              subst g1
              clear hla hc ej
              as_aux_lemma =>
              go_wp2_with (first
                | ((with_reducible refine at_strAt ?_); refine wpu_strAt (i := 1) (c := 47) rfl (by kernel_rfl) rfl rfl rfl HC.out ?_; go_frame)
                | fail)
              try simp only [Exit.inBlock, Exit.then]
              refine bodyPost_ret (results3 rfl (by first | exact resT rfl | exact resB G rfl (by rfl) | exact resO G rfl rfl) (by first | exact resT rfl | exact resB G rfl (by rfl) | exact resO G rfl rfl) (by first | exact resT rfl | exact resB G rfl (by rfl) | exact resO G rfl rfl)) rfl ?_
              exact ⟨by rw [HB.out]; rfl, G⟩
            · have y2 : ((j : Int) + 1 == 1) = false := by simp; omega
              have y2' : (j == 0) = false := by simp [g1]
              have y2'' : ((j : Int) == 0) = false := by simp [g1]
              by_cases g2 : j + 1 = q.length
              · have HB : Hid (callB (47 :: q) = none) := Lib.hid (by
                  rw [callB_some hla]
                  simp [g2])
                have y3 : ((j : Int) + 1 == (q.length : Int)) = true := by simp; omega
                have y4 : ((j : Int) + 1 == (q.length : Int) + 1 - 1) = true := by simp; omega
                clear hla hc ej g1 g2
                as_aux_lemma =>
                go_wp2_with (first
                  | ((with_reducible refine at_strAt ?_); refine wpu_strAt (i := j + 1) (c := 47) rfl (by kernel_rfl) rfl rfl (by omega) HC.out ?_; go_frame)
                  | fail)
                try simp only [Exit.inBlock, Exit.then]
                refine bodyPost_ret (results3 rfl (by first | exact resT rfl | exact resB G rfl (by rfl) | exact resO G rfl rfl) (by first | exact resT rfl | exact resB G rfl (by rfl) | exact resO G rfl rfl) (by first | exact resT rfl | exact resB G rfl (by rfl) | exact resO G rfl rfl)) rfl ?_
                exact ⟨by rw [HB.out]; rfl, G⟩
              · have HB : Hid (callB (47 :: q) = some (q.take j, q.drop (j + 1))) := Lib.hid (by
                  rw [callB_some hla, if_pos ⟨by omega, g2⟩])
                have y3 : ((j : Int) + 1 == (q.length : Int)) = false := by simp; omega
                have y4 : ((j : Int) + 1 == (q.length : Int) + 1 - 1) = false := by simp; omega
                clear hla hc ej g1 g2
                as_aux_lemma =>
                go_wp2_with (first
                  | ((with_reducible refine at_strAt ?_); refine wpu_strAt (i := j + 1) (c := 47) rfl (by kernel_rfl) rfl rfl (by omega) HC.out ?_; go_frame)
                  | fail)
                refine wp_region_calm (C := Own _ _) (by kernel_rfl) (by kernel_rfl) (own_drew G) ?_
                intro ι W hne hW hs
                repeat (first
                  | ((with_reducible refine atq_sliceAny ?_); first
                    | (refine wpq_strLH (i := 1) (j := j + 1) rfl rfl rfl rfl rfl rfl (by omega) (by omega) (by simp; omega) ?_; go_frame)
                    | (refine wpq_strL (i := j + 2) rfl rfl rfl rfl (by omega) (by simp; omega) ?_; go_frame))
                  | go_big_quiet_step (fail))
                refine wpQuiet_nil ?_
                intro i'
                have G := hW i'
                generalize W i' = wg at G ⊢
                clear hs hW hne
                go_wp2_with fail
                try simp only [Exit.inBlock, Exit.then]
                refine bodyPost_ret (results3 rfl (by first | exact resT rfl | exact resB G rfl (by rfl) | exact resO G rfl rfl) (by first | exact resT rfl | exact resB G rfl (by rfl) | exact resO G rfl rfl) (by first | exact resT rfl | exact resB G rfl (by rfl) | exact resO G rfl rfl)) rfl ?_
                exact ⟨by rw [HB.out]; simp [callV], G⟩
          · obtain ⟨z1, z2⟩ := beq_u8 h47
            have z3 : ((c.toNat : Int) == 47) = false := z1
            have z4 : (c.toNat == 47) = false := z2
            have HA2 : Hid (∀ j' : Nat, j ≤ j' → q[j']? ≠ some 47) := Lib.hid (fun j' hj => by
              by_cases e : j' = j
              · subst e
                rw [hc]
                exact fun e => h47 (Option.some.inj e)
              · exact HA.out j' (by omega))
            clear hc h47 z1 z2
            as_aux_lemma =>
            go_wp2_with (first
              | ((with_reducible refine at_strAt ?_); refine wpu_strAt (i := j + 1) (c := c) rfl (by kernel_rfl) rfl rfl (by omega) HC.out ?_; go_frame)
              | fail)
            go_roundw
            case rel => exact ⟨j, by go_num, by omega, HA2, G⟩
            case measure => simp [intOf] <;> omega
    · obtain ⟨z1, z2⟩ := beq_u8 hx
      have z3 : ((x.toNat : Int) == 47) = false := z1
      have z4 : (x.toNat == 47) = false := z2
      have HB : Hid (callB (x :: q) = none) := Lib.hid (by simp [callB, hx])
      clear hx z1 z2
      as_aux_lemma =>
      go_wp2_with (first
        | ((with_reducible refine at_strAt ?_); refine wpu_strAt (i := 0) (c := x) rfl (by kernel_rfl) rfl rfl rfl HC0.out ?_; go_frame)
        | ((with_reducible refine at_eqS ?_); refine wpu_eqS rfl (by kernel_rfl) rfl rfl (by first | assumption | rfl) ?_; go_frame)
        | fail)
      try simp only [Exit.inBlock, Exit.then]
      refine bodyPost_ret (results3 rfl (by first | exact resT rfl | exact resB G rfl (by rfl) | exact resO G rfl rfl) (by first | exact resT rfl | exact resB G rfl (by rfl) | exact resO G rfl rfl) (by first | exact resT rfl | exact resB G rfl (by rfl) | exact resO G rfl rfl)) rfl ?_
      exact ⟨by rw [HB.out]; rfl, h⟩

end Go.Proofs.YtndlfieignhjjaaDoor
