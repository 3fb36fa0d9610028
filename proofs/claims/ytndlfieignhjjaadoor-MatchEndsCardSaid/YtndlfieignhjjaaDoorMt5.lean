
/-
  Package match: names.
-/
import Derived.Test.YtndlfieignhjjaaDoorMt4
import Derived.Shelf.Strings.SlTrimAscii
namespace Go.Proofs.YtndlfieignhjjaaDoor
open Go.RowKit Go.Sl Go.ChangeShapes


def digitsL : Txt := [48, 49, 50, 51, 52, 53, 54, 55, 56, 57]
set_option maxRecDepth 100000 in
theorem digit_mem (c : UInt8) : digitsL.contains c = digit c := by
  have key : ∀ n : Fin 256, digitsL.contains (UInt8.ofNat n.val) = digit (UInt8.ofNat n.val) := by decide
  have := key ⟨c.toNat, c.toNat_lt⟩
  rwa [UInt8.ofNat_toNat] at this
theorem trim_nil (l : Txt) : Lib.trimS l digitsL = [] ↔ l.all digit = true := by
  have e : (fun c => digitsL.contains c) = digit := funext digit_mem
  unfold Lib.trimS Lib.trimLeftS Lib.trimRightS
  rw [e]
  constructor
  · intro h
    rw [List.all_eq_true]
    intro c hc
    cases hd : digit c with
    | true => rfl
    | false =>
      exfalso
      have h1 : c ∈ l.reverse.dropWhile digit := by
        have hsplit := List.takeWhile_append_dropWhile (p := digit) (l := l.reverse)
        have : c ∈ l.reverse := List.mem_reverse.2 hc
        rw [← hsplit] at this
        rcases List.mem_append.1 this with g | g
        · have : (l.reverse.takeWhile digit).all digit = true := by
            generalize l.reverse = m
            induction m with
            | nil => rfl
            | cons x m ih =>
              rw [List.takeWhile_cons]
              split
              · rename_i hx; rw [List.all_cons, hx, ih]; rfl
              · rfl
          rw [List.all_eq_true.1 this c g] at hd
          cases hd
        · exact g
      have h2 : c ∈ ((l.reverse.dropWhile digit).reverse).dropWhile digit := by
        have hsplit := List.takeWhile_append_dropWhile (p := digit) (l := (l.reverse.dropWhile digit).reverse)
        have : c ∈ (l.reverse.dropWhile digit).reverse := List.mem_reverse.2 h1
        rw [← hsplit] at this
        rcases List.mem_append.1 this with g | g
        · have : (((l.reverse.dropWhile digit).reverse).takeWhile digit).all digit = true := by
            generalize (l.reverse.dropWhile digit).reverse = m
            induction m with
            | nil => rfl
            | cons x m ih =>
              rw [List.takeWhile_cons]
              split
              · rename_i hx; rw [List.all_cons, hx, ih]; rfl
              · rfl
          rw [List.all_eq_true.1 this c g] at hd
          cases hd
        · exact g
      rw [h] at h2
      cases h2
  · intro h
    have hr : ∀ c ∈ l.reverse, digit c = true := fun c hc => List.all_eq_true.1 h c (List.mem_reverse.1 hc)
    have hd : l.reverse.dropWhile digit = [] := by
      revert hr
      generalize l.reverse = m
      intro hr
      induction m with
      | nil => rfl
      | cons x m ih =>
        rw [List.dropWhile_cons_of_pos (hr x (List.mem_cons_self ..))]
        exact ih fun c hc => hr c (List.mem_cons_of_mem _ hc)
    rw [hd]
    rfl

theorem own_kept {B w w' : World} {A : Assn} (h : Own B A w) (hb : Below w.heap.size w w') : Own B A w' := by
  refine h.keep (h.1.trans ⟨hb.os, hb.tape, hb.output, hb.size, fun k hk => hb.block k (Nat.lt_of_lt_of_le hk h.1.size)⟩) fun b o hbo => ?_
  rw [hb.block b (Array.getElem?_eq_some_iff.1 hbo).1]
  exact hbo

theorem trimC {B w : World} {A : Assn} {s : Txt} (hs : s.length ≤ 1000000) (h : Own B A w) :
    Calls Tryd.prog 51 #[str s, str digitsL] w fun e w' => e = .returned (str (Lib.trimS s digitsL)) ∧ Own B A w' := by
  have hc := Any.strings_Trim_laid Tryd.lays160 (by kernel_rfl) ⟨s.toArray⟩ ⟨digitsL.toArray⟩ w (by rw [str_size]; omega) (by decide) (by
    intro j b hj
    have hm : b ∈ digitsL := List.mem_of_getElem? hj
    have : digit b = true := by rw [← digit_mem]; simpa using hm
    unfold digit at this
    simp at this
    have := UInt8.le_iff_toNat_le.1 this.2
    have e : (57 : UInt8).toNat = 57 := rfl
    omega)
  refine Calls.mono hc ?_
  rintro e w' ⟨rfl, hb⟩
  exact ⟨rfl, own_kept h hb⟩

set_option maxHeartbeats 8000000 in
set_option maxRecDepth 100000 in
theorem nameC {B w : World} {A : Assn} {p : Txt} (hp : p.length ≤ 1000000) (h : Own B A w) :
    Calls Tryd.prog 35 #[str p] w fun e w' => e = .returned (str (nameL p)) ∧ Own B A w' := by
  have HLI0 := fun w => lastIndexC p 58 w hp
  go_enter Tryd.func35, Tryd.ntmps35
  rcases lastAt_spec 58 p with ⟨k1, _⟩ | ⟨i, k1, k2, _⟩
  · have HB : Hid (nameL p = smallL p) := Lib.hid (by unfold nameL; rw [k1])
    have HLI : Hid (∀ w, Calls Tryd.prog 30 #[str p, .int .u8 58] w fun e w' => e = .returned (.int .i64 (-1)) ∧ w' = w) := Lib.hid fun w => by
      have := HLI0 w
      unfold lastI at this
      rw [k1] at this
      exact this
    clear HLI0 k1
    go_wp2_with (first
      | (go_at_call 30; refine Calls.mono (HLI.out _) ?_; rintro e w ⟨rfl, rfl⟩)
      | fail)
    refine Calls.mono (smallMC hp h) ?_
    clear h; rintro e w ⟨rfl, h⟩
    go_wp2_with fail
    go_ret
    exact ⟨by rw [HB.out]; rfl, h⟩
  · have hi := lastAt_lt k1
    have HLI : Hid (∀ w, Calls Tryd.prog 30 #[str p, .int .u8 58] w fun e w' => e = .returned (.int .i64 (i : Int)) ∧ w' = w) := Lib.hid fun w => by
      have := HLI0 w
      unfold lastI at this
      rw [k1] at this
      exact this
    clear HLI0
    by_cases g1 : i + 1 < p.length
    · have y1 : decide ((i : Int) < (p.length : Int) - 1) = true := by simp; omega
      have hdl : (p.drop (i + 1)).length ≤ 1000000 := by simp; omega
      have htl : (p.take i).length ≤ 1000000 := by simp; omega
      obtain ⟨tr, htr⟩ : ∃ tr, Lib.trimS (p.drop (i + 1)) digitsL = tr := ⟨_, rfl⟩
      have HTR := Lib.hid htr
      have HALL : Hid (tr = [] ↔ (p.drop (i + 1)).all digit = true) := Lib.hid (by rw [← htr]; exact trim_nil _)
      by_cases g2 : tr = []
      · have HB : Hid (nameL p = smallL (p.take i)) := Lib.hid (by unfold nameL; rw [k1]; simp [g1, HALL.out.1 g2])
        have y2 : decide (tr = []) = true := by simp [g2]
        clear k1 k2 htr g2
        as_aux_lemma =>
        go_wp2_with (first
          | (go_at_call 30; refine Calls.mono (HLI.out _) ?_; rintro e w ⟨rfl, rfl⟩)
          | (go_at_call 51; refine Calls.mono (trimC hdl h) ?_; clear h; rintro e w ⟨rfl, h⟩; rw [HTR.out])
          | ((with_reducible refine at_sliceAny ?_); first
            | (refine wpu_strL (i := i + 1) rfl (by kernel_rfl) rfl rfl (by omega) (by omega) ?_; go_frame)
            | (refine wpu_strH (j := i) rfl (by kernel_rfl) rfl rfl rfl (by omega) ?_; go_frame))
          | ((with_reducible refine at_eqS ?_); refine wpu_eqS rfl (by kernel_rfl) rfl rfl (by first | assumption | rfl) ?_; go_frame)
          | fail)
        refine Calls.mono (smallMC htl h) ?_
        clear h; rintro e w ⟨rfl, h⟩
        go_wp2_with fail
        go_ret
        exact ⟨by rw [HB.out]; rfl, h⟩
      · have HB : Hid (nameL p = smallL p) := Lib.hid (by
          have : ¬ (p.drop (i + 1)).all digit = true := fun e => g2 (HALL.out.2 e)
          unfold nameL
          rw [k1]
          simp only [this]
          simp)
        have y2 : decide (tr = []) = false := by simp [g2]
        clear k1 k2 htr g2
        as_aux_lemma =>
        go_wp2_with (first
          | (go_at_call 30; refine Calls.mono (HLI.out _) ?_; rintro e w ⟨rfl, rfl⟩)
          | (go_at_call 51; refine Calls.mono (trimC hdl h) ?_; clear h; rintro e w ⟨rfl, h⟩; rw [HTR.out])
          | ((with_reducible refine at_sliceAny ?_); refine wpu_strL (i := i + 1) rfl (by kernel_rfl) rfl rfl (by omega) (by omega) ?_; go_frame)
          | ((with_reducible refine at_eqS ?_); refine wpu_eqS rfl (by kernel_rfl) rfl rfl (by first | assumption | rfl) ?_; go_frame)
          | fail)
        refine Calls.mono (smallMC hp h) ?_
        clear h; rintro e w ⟨rfl, h⟩
        go_wp2_with fail
        go_ret
        exact ⟨by rw [HB.out]; rfl, h⟩
    · have y1 : decide ((i : Int) < (p.length : Int) - 1) = false := by simp; omega
      have HB : Hid (nameL p = smallL p) := Lib.hid (by unfold nameL; rw [k1]; simp [g1])
      clear k1 k2
      as_aux_lemma =>
      go_wp2_with (first
        | (go_at_call 30; refine Calls.mono (HLI.out _) ?_; rintro e w ⟨rfl, rfl⟩)
        | fail)
      refine Calls.mono (smallMC hp h) ?_
      clear h; rintro e w ⟨rfl, h⟩
      go_wp2_with fail
      go_ret
      exact ⟨by rw [HB.out]; rfl, h⟩


set_option maxHeartbeats 8000000 in
set_option maxRecDepth 100000 in
theorem nameRefC {B w : World} {A : Assn} {p : Txt} (hp : p.length ≤ 1000000) (h : Own B A w) :
    Calls Tryd.prog 38 #[str p] w fun e w' => e = .returned (str (nameL p)) ∧ Own B A w' := by
  go_enter Tryd.func38, Tryd.ntmps38
  go_wp2_with fail
  go_loopw [3] (fun i wr => ∃ k : Nat, i = .int .i64 ((k : Int) - 1) ∧ k ≤ p.length ∧ Hid (∀ (j : Nat) c, k ≤ j → p[j]? = some c → digit c = true) ∧ Own B A wr) (fun i _ => (intOf i + 1).toNat)
  case atStart => exact ⟨p.length, rfl, Nat.le_refl _, Lib.hid (fun j c hj hc => by have := (List.getElem?_eq_some_iff.1 hc).1; omega), h⟩
  case round =>
    clear h
    obtain ⟨k, rfl, hk, HA, G⟩ := hrel
    cases k with
    | zero =>
      have HB : Hid (nameL p = smallL p) := Lib.hid (name_end fun j c hc => HA.out j c (Nat.zero_le _) hc)
      as_aux_lemma =>
      go_wp2_with fail
      refine Calls.mono (smallRefC hp G) ?_
      clear G; rintro e w ⟨rfl, G⟩
      go_wp2_with fail
      go_ret
      exact ⟨by rw [HB.out]; rfl, G⟩
    | succ j =>
      have ej : ((j + 1 : Nat) : Int) - 1 = (j : Int) := by omega
      rw [ej]
      obtain ⟨c, hc⟩ : ∃ c, p[j]? = some c := ⟨p[j], List.getElem?_eq_getElem (by omega)⟩
      have HC := Lib.hid hc
      have hd : ∀ (j' : Nat) c, j < j' → p[j']? = some c → digit c = true := fun j' c hj hc => HA.out j' c (by omega) hc
      have htl : (p.take j).length ≤ 1000000 := by simp; omega
      by_cases h58 : c = 58
      · have hn := name_colon (by rw [hc, h58]) hd
        subst h58
        by_cases g1 : j + 1 < p.length
        · rw [if_pos g1] at hn
          have HB := Lib.hid hn
          have y1 : decide ((j : Int) < (p.length : Int) - 1) = true := by simp; omega
          clear hc hd hn ej
          as_aux_lemma =>
          go_wp2_with (first
            | ((with_reducible refine at_strAt ?_); refine wpu_strAt (i := j) (c := 58) rfl (by kernel_rfl) rfl rfl rfl HC.out ?_; go_frame)
            | ((with_reducible refine at_sliceAny ?_); refine wpu_strH (j := j) rfl (by kernel_rfl) rfl rfl rfl (by omega) ?_; go_frame)
            | fail)
          refine Calls.mono (smallRefC htl G) ?_
          clear G; rintro e w ⟨rfl, G⟩
          go_wp2_with fail
          go_ret
          exact ⟨by rw [HB.out]; rfl, G⟩
        · rw [if_neg g1] at hn
          have HB := Lib.hid hn
          have y1 : decide ((j : Int) < (p.length : Int) - 1) = false := by simp; omega
          clear hc hd hn ej
          as_aux_lemma =>
          go_wp2_with (first
            | ((with_reducible refine at_strAt ?_); refine wpu_strAt (i := j) (c := 58) rfl (by kernel_rfl) rfl rfl rfl HC.out ?_; go_frame)
            | ((with_reducible refine at_sliceAny ?_); refine wpu_strH (j := j) rfl (by kernel_rfl) rfl rfl rfl (by omega) ?_; go_frame)
            | fail)
          refine Calls.mono (smallRefC hp G) ?_
          clear G; rintro e w ⟨rfl, G⟩
          go_wp2_with fail
          go_ret
          exact ⟨by rw [HB.out]; rfl, G⟩
      · obtain ⟨z1, z2⟩ := beq_u8 h58
        have z3 : ((c.toNat : Int) == 58) = false := z1
        have z4 : (c.toNat == 58) = false := z2
        by_cases hdg : digit c = true
        · have h48 : 48 ≤ c.toNat ∧ c.toNat ≤ 57 := by
            unfold digit at hdg
            simp at hdg
            exact ⟨UInt8.le_iff_toNat_le.1 hdg.1, UInt8.le_iff_toNat_le.1 hdg.2⟩
          obtain ⟨u1, u2⟩ := h48
          have y1 : decide ((c.toNat : Int) < 48) = false := by simp; omega
          have y2 : decide ((57 : Int) < (c.toNat : Int)) = false := by simp; omega
          have y3 : decide (c.toNat < 48) = false := by simp; omega
          have y4 : decide (57 < c.toNat) = false := by simp; omega
          have HA2 : Hid (∀ (j' : Nat) c, j ≤ j' → p[j']? = some c → digit c = true) := Lib.hid (fun j' c' hj hc' => by
            by_cases e : j' = j
            · subst e
              rw [hc] at hc'
              rw [← Option.some.inj hc']
              exact hdg
            · exact hd j' c' (by omega) hc')
          clear hc hd hdg h58 z1 z2
          as_aux_lemma =>
          go_wp2_with (first
            | ((with_reducible refine at_strAt ?_); refine wpu_strAt (i := j) (c := c) rfl (by kernel_rfl) rfl rfl rfl HC.out ?_; go_frame)
            | fail)
          go_roundw
          case rel => exact ⟨j, rfl, by omega, HA2, G⟩
          case measure => simp [intOf] <;> omega
        · have HB : Hid (nameL p = smallL p) := Lib.hid (name_other hc h58 (by simpa using hdg) hd)
          by_cases hlo : c.toNat < 48
          · have y1 : decide ((c.toNat : Int) < 48) = true := by simp; omega
            have y3 : decide (c.toNat < 48) = true := by simp; omega
            clear hc hd hdg h58 z1 z2 ej
            as_aux_lemma =>
            go_wp2_with (first
              | ((with_reducible refine at_strAt ?_); refine wpu_strAt (i := j) (c := c) rfl (by kernel_rfl) rfl rfl rfl HC.out ?_; go_frame)
              | ((with_reducible refine at_sliceAny ?_); refine wpu_strH (j := j) rfl (by kernel_rfl) rfl rfl rfl (by omega) ?_; go_frame)
              | fail)
            refine Calls.mono (smallRefC hp G) ?_
            clear G; rintro e w ⟨rfl, G⟩
            go_wp2_with fail
            go_ret
            exact ⟨by rw [HB.out]; rfl, G⟩
          · have hhi : 57 < c.toNat := by
              by_cases e : 57 < c.toNat
              · exact e
              · exfalso
                apply hdg
                unfold digit
                simp
                exact ⟨UInt8.le_iff_toNat_le.2 (by show 48 ≤ c.toNat; omega), UInt8.le_iff_toNat_le.2 (by show c.toNat ≤ 57; omega)⟩
            have y1 : decide ((c.toNat : Int) < 48) = false := by simp; omega
            have y2 : decide ((57 : Int) < (c.toNat : Int)) = true := by simp; omega
            have y3 : decide (c.toNat < 48) = false := by simp; omega
            have y4 : decide (57 < c.toNat) = true := by simp; omega
            clear hc hd hdg h58 z1 z2 ej
            as_aux_lemma =>
            go_wp2_with (first
              | ((with_reducible refine at_strAt ?_); refine wpu_strAt (i := j) (c := c) rfl (by kernel_rfl) rfl rfl rfl HC.out ?_; go_frame)
              | ((with_reducible refine at_sliceAny ?_); refine wpu_strH (j := j) rfl (by kernel_rfl) rfl rfl rfl (by omega) ?_; go_frame)
              | fail)
            refine Calls.mono (smallRefC hp G) ?_
            clear G; rintro e w ⟨rfl, G⟩
            go_wp2_with fail
            go_ret
            exact ⟨by rw [HB.out]; rfl, G⟩
end Go.Proofs.YtndlfieignhjjaaDoor
