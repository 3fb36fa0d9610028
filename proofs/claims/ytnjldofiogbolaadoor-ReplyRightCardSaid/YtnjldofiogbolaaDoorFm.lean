

/-
  Package fields: names, values, numbers.
-/
import Derived.Test.YtnjldofiogbolaaDoorShelf
import Derived.Test.YtnjldofiogbolaaDoorFmP
import Derived.Test.YtnjldofiogbolaaDoorStrB
import Derived.Recover
namespace Go.Proofs.YtnjldofiogbolaaDoor
open Go.RowKit Go.Sl Go.ChangeShapes

theorem beq_u8 {c d : UInt8} (h : c ≠ d) : ((c.toNat : Int) == (d.toNat : Int)) = false ∧ (c.toNat == d.toNat) = false := by
  have : c.toNat ≠ d.toNat := fun e => h (UInt8.toNat_inj.1 e)
  constructor
  · simp
    omega
  · simp [this]

theorem own_kept {B w w' : World} {A : Assn} (h : Own B A w) (hb : Below w.heap.size w w') : Own B A w' := by
  refine h.keep (h.1.trans ⟨hb.os, hb.tape, hb.output, hb.size, fun k hk => hb.block k (Nat.lt_of_lt_of_le hk h.1.size)⟩) fun b o hbo => ?_
  rw [hb.block b (Array.getElem?_eq_some_iff.1 hbo).1]
  exact hbo


section
variable {w : World} {ops : Array Oper} {Q : Exit → Act → World → Prop} {rest : List Oper} {a : Act} {x y : Operand} {d : Option Tmp} {ty T' : TypeId} {pos : String} {after : Array Edge} {g : Option (Nat × Bool)} {o : Oper} {l m : Txt}
theorem exec_strNe {P : Program} {T : TypeId} (ho : o.op = .binOp .neq T x y T') (hx : evalO a x = some (str l)) (hy : evalO a y = some (str m)) [hT : TyStr P T] : (execOp a.eval o).run P w = .ok (.value (.bool (!decide (l = m)))) w := by
  unfold execOp
  rw [ho]
  simp only [evalO_eq hx, evalO_eq hy]
  simp [eqGuard, binOp_string_neq, str_toList]
  rw [Bool.eq_iff_iff]
  simp
theorem at_eqS {P : Program} (h : wpList P ops Q (⟨d, .binOp .eql 9 x y T', ty, pos, after, g⟩ :: rest) a w) : wpList P ops Q (⟨d, .binOp .eql 9 x y T', ty, pos, after, g⟩ :: rest) a w := h
theorem wpu_eqS (ho : o.op = .binOp .eql 9 x y T') (hw : Region.wanted o (yielded ops a.tmps) = true) (hx : evalO a x = some (str l)) (hy : evalO a y = some (str m)) {b : Bool} (hb : decide (l = m) = b) (kk : wpList Tryd.prog ops Q rest (a.put o.dst (.bool b)) w) : wpList Tryd.prog ops Q (o :: rest) a w := by
  subst hb
  exact wpu_val hw (exec_strEq ho hx hy) kk
theorem at_neS {P : Program} (h : wpList P ops Q (⟨d, .binOp .neq 9 x y T', ty, pos, after, g⟩ :: rest) a w) : wpList P ops Q (⟨d, .binOp .neq 9 x y T', ty, pos, after, g⟩ :: rest) a w := h
theorem wpu_neS (ho : o.op = .binOp .neq 9 x y T') (hw : Region.wanted o (yielded ops a.tmps) = true) (hx : evalO a x = some (str l)) (hy : evalO a y = some (str m)) {b : Bool} (hb : decide (l = m) = b) (kk : wpList Tryd.prog ops Q rest (a.put o.dst (.bool (!b))) w) :
    wpList Tryd.prog ops Q (o :: rest) a w := by
  subst hb
  exact wpu_val hw (exec_strNe ho hx hy) kk
end

theorem hasPrefixC (s p : Txt) (w : World) : Calls Tryd.prog 25 #[str s, str p] w fun e w' => e = .returned (.bool (p.isPrefixOf s)) ∧ w' = w := Tryd.strings_HasPrefix ⟨s.toArray⟩ ⟨p.toArray⟩ w

/-! ### giving up -/
def wrongE : PanicEntry := { v := .iface 59 (.agg #[]), recovered := false }
theorem mustT (w : World) : Calls Tryd.prog 28 #[.bool true] w fun e w' => e = .returned (.tuple #[]) ∧ w' = w := by
  go_enter Tryd.func28, Tryd.ntmps28
  go_wp2_with fail
  go_end0
  exact ⟨rfl, rfl⟩
theorem mustF (w : World) : Calls Tryd.prog 28 #[.bool false] w fun e w' => e = .panicked [wrongE] ∧ w' = w := by
  go_enter Tryd.func28, Tryd.ntmps28
  go_wp2_with fail
  exact ⟨rfl, rfl, rfl⟩

/-! ### names and values -/
set_option maxRecDepth 100000 in
theorem blank_ascii : ∀ (j : Nat) (b : UInt8), (ByteArray.mk blankL.toArray).data.toList[j]? = some b → b.toNat < 128 := by
  intro j b h
  have hm : b ∈ blankL := List.mem_of_getElem? h
  simp [blankL] at hm
  rcases hm with rfl | rfl <;> decide
theorem trimBC {B w : World} {A : Assn} {s : Txt} (hs : s.length ≤ 1000000) (h : Own B A w) :
    Calls Tryd.prog 35 #[str s, str blankL] w fun e w' => e = .returned (str (Lib.trimS s blankL)) ∧ Own B A w' := by
  have hc := Any.strings_Trim_laid Tryd.lays160 (by kernel_rfl) ⟨s.toArray⟩ ⟨blankL.toArray⟩ w (by rw [str_size]; omega) (by decide) blank_ascii
  refine Calls.mono hc ?_
  rintro e w' ⟨rfl, hb⟩
  exact ⟨rfl, own_kept h hb⟩
theorem trimDC {B w : World} {A : Assn} {s : Txt} (hs : s.length ≤ 1000000) (h : Own B A w) :
    Calls Tryd.prog 35 #[str s, str digitsL] w fun e w' => e = .returned (str (Lib.trimS s digitsL)) ∧ Own B A w' := by
  have hc := Any.strings_Trim_laid Tryd.lays160 (by kernel_rfl) ⟨s.toArray⟩ ⟨digitsL.toArray⟩ w (by rw [str_size]; omega) (by decide) (by
    intro j b hj
    have hm : b ∈ digitsL := List.mem_of_getElem? hj
    have := digit_le (c := b) (by rw [← digit_mem]; simpa using hm)
    omega)
  refine Calls.mono hc ?_
  rintro e w' ⟨rfl, hb⟩
  exact ⟨rfl, own_kept h hb⟩

theorem all_here {α : Type} {p : α → Bool} {l : List α} {j : Nat} {c : α} (hj : l[j]? = some c) (h : p c = false) : l.all p = false := by
  rw [List.all_eq_false]
  exact ⟨c, List.mem_of_getElem? hj, by simp [h]⟩
theorem all_step {α : Type} {p : α → Bool} {l : List α} {j : Nat} {c : α} (h : (l.take j).all p = true) (hj : l[j]? = some c) (hc : p c = true) : (l.take (j + 1)).all p = true := by
  rw [List.take_add_one, hj, List.all_append, h]
  simp [hc]


set_option maxHeartbeats 8000000 in
set_option maxRecDepth 100000 in
theorem valueC {B w : World} {A : Assn} {s : Txt} (hs : s.length ≤ 1000000) (h : Own B A w) :
    Calls Tryd.prog 29 #[str s] w fun e w' => e = .returned (.bool (valueR s)) ∧ Own B A w' := by
  go_enter Tryd.func29, Tryd.ntmps29
  go_wp2_with fail
  go_loopw [7, 3, 4] (fun i _ _ wr => ∃ j : Nat, i = .int .i64 j ∧ j ≤ s.length ∧ Hid ((s.take j).all (fun c => !badV c) = true) ∧ Own B A wr) (fun i _ _ _ => s.length - (intOf i).toNat)
  case atStart => exact ⟨0, rfl, Nat.zero_le _, Lib.hid (by simp), h⟩
  case round =>
    clear h
    obtain ⟨j, rfl, hj, HA, h⟩ := hrel
    by_cases hjn : j < s.length
    · obtain ⟨c, hc⟩ : ∃ c, s[j]? = some c := ⟨s[j], List.getElem?_eq_getElem hjn⟩
      have HC := Lib.hid hc
      have hbad : badV c = true → Hid (valueR s = false) := fun e => Lib.hid (by
        unfold valueR
        rw [all_here (p := fun c => !badV c) hc (by simp [e])]
        rfl)
      by_cases c0 : c = 0
      · subst c0
        have HB := hbad rfl
        clear hc hbad
        skip
        as_aux_lemma =>
        go_wp2_with (first
          | ((with_reducible refine at_strAt ?_); refine wpu_strAt (i := j) rfl (by kernel_rfl) rfl rfl rfl HC.out ?_; go_frame)
          | fail)
        go_ret
        exact ⟨by rw [HB.out]; rfl, h⟩
      · by_cases c1 : c = 10
        · subst c1
          have HB := hbad rfl
          clear hc hbad
          skip
          as_aux_lemma =>
          go_wp2_with (first
            | ((with_reducible refine at_strAt ?_); refine wpu_strAt (i := j) rfl (by kernel_rfl) rfl rfl rfl HC.out ?_; go_frame)
            | fail)
          go_ret
          exact ⟨by rw [HB.out]; rfl, h⟩
        · by_cases c2 : c = 13
          · subst c2
            have HB := hbad rfl
            clear hc hbad
            skip
            as_aux_lemma =>
            go_wp2_with (first
              | ((with_reducible refine at_strAt ?_); refine wpu_strAt (i := j) rfl (by kernel_rfl) rfl rfl rfl HC.out ?_; go_frame)
              | fail)
            go_ret
            exact ⟨by rw [HB.out]; rfl, h⟩
          · obtain ⟨a1, a2⟩ := beq_u8 c0
            have a3 : ((c.toNat : Int) == 0) = false := a1
            have a4 : (c.toNat == 0) = false := a2
            obtain ⟨b1, b2⟩ := beq_u8 c1
            have b3 : ((c.toNat : Int) == 10) = false := b1
            have b4 : (c.toNat == 10) = false := b2
            obtain ⟨d1, d2⟩ := beq_u8 c2
            have d3 : ((c.toNat : Int) == 13) = false := d1
            have d4 : (c.toNat == 13) = false := d2
            have HN : Hid ((s.take (j + 1)).all (fun c => !badV c) = true) := Lib.hid (all_step HA.out hc (by simp [badV, c0, c1, c2]))
            clear hc hbad c0 c1 c2 a1 a2 b1 b2 d1 d2
            go_wp2_with (first
              | ((with_reducible refine at_strAt ?_); refine wpu_strAt (i := j) rfl (by kernel_rfl) rfl rfl rfl HC.out ?_; go_frame)
              | fail)
            go_roundw
            case rel => exact ⟨j + 1, by go_num, by omega, HN, h⟩
            case measure => simp [intOf] <;> omega
    · have HA2 := HA.out
      rw [List.take_of_length_le (by omega)] at HA2
      obtain ⟨b, hb⟩ : ∃ b, decide (Lib.trimS s blankL = s) = b := ⟨_, rfl⟩
      have HB : Hid (valueR s = b) := Lib.hid (by unfold valueR; rw [HA2, hb]; rfl)
      clear HA2
      go_wp2_with (first
        | (go_at_call 35; refine Calls.mono (trimBC hs h) ?_; clear h; rintro e w ⟨rfl, h⟩)
        | ((with_reducible refine at_eqS ?_); refine wpu_eqS rfl (by kernel_rfl) rfl rfl hb ?_; go_frame)
        | fail)
      go_ret
      exact ⟨by rw [HB.out]; rfl, h⟩


set_option maxHeartbeats 8000000 in
set_option maxRecDepth 100000 in
theorem nameC {B w : World} {A : Assn} {s : Txt} (hs : s.length ≤ 1000000) (h : Own B A w) :
    Calls Tryd.prog 32 #[str s] w fun e w' => e = .returned (.bool (nameR s)) ∧ Own B A w' := by
  go_enter Tryd.func32, Tryd.ntmps32
  go_wp2_with fail
  go_loopw [7, 3, 4] (fun i _ _ wr => ∃ j : Nat, i = .int .i64 j ∧ j ≤ s.length ∧ Hid ((s.take j).all (fun c => !badN c) = true) ∧ Own B A wr) (fun i _ _ _ => s.length - (intOf i).toNat)
  case atStart => exact ⟨0, rfl, Nat.zero_le _, Lib.hid (by simp), h⟩
  case round =>
    clear h
    obtain ⟨j, rfl, hj, HA, h⟩ := hrel
    by_cases hjn : j < s.length
    · obtain ⟨c, hc⟩ : ∃ c, s[j]? = some c := ⟨s[j], List.getElem?_eq_getElem hjn⟩
      have HC := Lib.hid hc
      have hbad : badN c = true → Hid (nameR s = false) := fun e => Lib.hid (by
        unfold nameR
        rw [all_here (p := fun c => !badN c) hc (by simp [e])]
        rfl)
      have hgood : badN c = false → Hid ((s.take (j + 1)).all (fun c => !badN c) = true) := fun e => Lib.hid (all_step HA.out hc (by simp [e]))
      clear hc
      by_cases c0 : c.toNat ≤ 32
      · have HB := hbad (by simp [badN, c0])
        have y1 : decide ((c.toNat : Int) ≤ 32) = true := by simp; omega
        have y2 : decide (c.toNat ≤ 32) = true := by simp; omega
        clear hbad hgood
        skip
        as_aux_lemma =>
        go_wp2_with (first
          | ((with_reducible refine at_strAt ?_); refine wpu_strAt (i := j) rfl (by kernel_rfl) rfl rfl rfl HC.out ?_; go_frame)
          | fail)
        go_ret
        exact ⟨by rw [HB.out]; rfl, h⟩
      · have y1 : decide ((c.toNat : Int) ≤ 32) = false := by simp; omega
        have y2 : decide (c.toNat ≤ 32) = false := by simp; omega
        by_cases c1 : 127 ≤ c.toNat
        · have HB := hbad (by simp [badN, c1])
          have y3 : decide (127 ≤ (c.toNat : Int)) = true := by simp; omega
          have y4 : decide (127 ≤ c.toNat) = true := by simp; omega
          clear hbad hgood c0
          skip
          as_aux_lemma =>
          go_wp2_with (first
            | ((with_reducible refine at_strAt ?_); refine wpu_strAt (i := j) rfl (by kernel_rfl) rfl rfl rfl HC.out ?_; go_frame)
            | fail)
          go_ret
          exact ⟨by rw [HB.out]; rfl, h⟩
        · have y3 : decide (127 ≤ (c.toNat : Int)) = false := by simp; omega
          have y4 : decide (127 ≤ c.toNat) = false := by simp; omega
          by_cases c2 : c = 58
          · subst c2
            have HB := hbad (by simp [badN])
            clear hbad hgood c0 c1 y1 y2 y3 y4
            skip
            as_aux_lemma =>
            go_wp2_with (first
              | ((with_reducible refine at_strAt ?_); refine wpu_strAt (i := j) rfl (by kernel_rfl) rfl rfl rfl HC.out ?_; go_frame)
              | fail)
            go_ret
            exact ⟨by rw [HB.out]; rfl, h⟩
          · obtain ⟨b1, b2⟩ := beq_u8 c2
            have b3 : ((c.toNat : Int) == 58) = false := b1
            have b4 : (c.toNat == 58) = false := b2
            by_cases c3 : 65 ≤ c.toNat
            · have y5 : decide (65 ≤ (c.toNat : Int)) = true := by simp; omega
              have y6 : decide (65 ≤ c.toNat) = true := by simp; omega
              by_cases c4 : c.toNat ≤ 90
              · have HB := hbad (by simp [badN, c3, c4])
                have y7 : decide ((c.toNat : Int) ≤ 90) = true := by simp; omega
                have y8 : decide (c.toNat ≤ 90) = true := by simp; omega
                clear hbad hgood c0 c1 c2 b1 b2
                skip
                as_aux_lemma =>
                go_wp2_with (first
                  | ((with_reducible refine at_strAt ?_); refine wpu_strAt (i := j) rfl (by kernel_rfl) rfl rfl rfl HC.out ?_; go_frame)
                  | fail)
                go_ret
                exact ⟨by rw [HB.out]; rfl, h⟩
              · have HN := hgood (by simp [badN, c0, c1, c2, c4])
                have y7 : decide ((c.toNat : Int) ≤ 90) = false := by simp; omega
                have y8 : decide (c.toNat ≤ 90) = false := by simp; omega
                clear hbad hgood c0 c1 c2 b1 b2
                go_wp2_with (first
                  | ((with_reducible refine at_strAt ?_); refine wpu_strAt (i := j) rfl (by kernel_rfl) rfl rfl rfl HC.out ?_; go_frame)
                  | fail)
                go_roundw
                case rel => exact ⟨j + 1, by go_num, by omega, HN, h⟩
                case measure => simp [intOf] <;> omega
            · have HN := hgood (by simp [badN, c0, c1, c2, c3])
              have y5 : decide (65 ≤ (c.toNat : Int)) = false := by simp; omega
              have y6 : decide (65 ≤ c.toNat) = false := by simp; omega
              clear hbad hgood c0 c1 c2 b1 b2
              go_wp2_with (first
                | ((with_reducible refine at_strAt ?_); refine wpu_strAt (i := j) rfl (by kernel_rfl) rfl rfl rfl HC.out ?_; go_frame)
                | fail)
              go_roundw
              case rel => exact ⟨j + 1, by go_num, by omega, HN, h⟩
              case measure => simp [intOf] <;> omega
    · have HA2 := HA.out
      rw [List.take_of_length_le (by omega)] at HA2
      obtain ⟨b, hb⟩ : ∃ b, decide (s = []) = b := ⟨_, rfl⟩
      have HB : Hid (nameR s = !b) := Lib.hid (by unfold nameR; rw [HA2, hb]; rfl)
      clear HA2
      go_wp2_with (first
        | ((with_reducible refine at_neS ?_); refine wpu_neS rfl (by kernel_rfl) rfl rfl hb ?_; go_frame)
        | fail)
      go_ret
      exact ⟨by rw [HB.out]; rfl, h⟩

set_option maxHeartbeats 8000000 in
set_option maxRecDepth 100000 in
theorem pseudoC {B w : World} {A : Assn} {f : Fd} (h : Own B A w) :
    Calls Tryd.prog 31 #[.agg #[str f.1, str f.2.1, .bool f.2.2]] w fun e w' => e = .returned (.bool (pseudoR f)) ∧ Own B A w' := by
  go_enter Tryd.func31, Tryd.ntmps31
  go_wp2_with (first
    | (go_at_call 25; refine Calls.mono (hasPrefixC f.1 [58] _) ?_; rintro e w ⟨rfl, rfl⟩)
    | fail)
  go_ret
  exact ⟨rfl, own_alloc h _⟩

theorem beq_dec (a b : Txt) : (a == b) = decide (a = b) := by rw [Bool.eq_iff_iff]; simp

set_option maxHeartbeats 8000000 in
set_option maxRecDepth 100000 in
theorem hopC {B w : World} {A : Assn} {f : Fd} (h : Own B A w) :
    Calls Tryd.prog 30 #[.agg #[str f.1, str f.2.1, .bool f.2.2]] w fun e w' => e = .returned (.bool (hopR f)) ∧ Own B A w' := by
  obtain ⟨n, v, nv⟩ := f
  simp only
  obtain ⟨q1, h1⟩ : ∃ q, decide (n = [99, 111, 110, 110, 101, 99, 116, 105, 111, 110]) = q := ⟨_, rfl⟩
  obtain ⟨q2, h2⟩ : ∃ q, decide (n = [112, 114, 111, 120, 121, 45, 99, 111, 110, 110, 101, 99, 116, 105, 111, 110]) = q := ⟨_, rfl⟩
  obtain ⟨q3, h3⟩ : ∃ q, decide (n = [107, 101, 101, 112, 45, 97, 108, 105, 118, 101]) = q := ⟨_, rfl⟩
  obtain ⟨q4, h4⟩ : ∃ q, decide (n = [116, 114, 97, 110, 115, 102, 101, 114, 45, 101, 110, 99, 111, 100, 105, 110, 103]) = q := ⟨_, rfl⟩
  obtain ⟨q5, h5⟩ : ∃ q, decide (n = [117, 112, 103, 114, 97, 100, 101]) = q := ⟨_, rfl⟩
  obtain ⟨q6, h6⟩ : ∃ q, decide (n = [116, 101]) = q := ⟨_, rfl⟩
  obtain ⟨q7, h7⟩ : ∃ q, decide (v = [116, 114, 97, 105, 108, 101, 114, 115]) = q := ⟨_, rfl⟩
  have HB0 : hopR (n, v, nv) = (q1 || q2 || q3 || q4 || q5 || (q6 && !q7)) := by unfold hopR hopN; rw [h1, h2, h3, h4, h5, h6, h7]
  cases q1
  · cases q2
    · cases q3
      · cases q4
        · cases q5
          · cases q6
            · have HB : Hid (hopR (n, v, nv) = false) := Lib.hid (by rw [HB0]; rfl)
              clear HB0
              skip
              as_aux_lemma =>
              go_enter Tryd.func30, Tryd.ntmps30
              go_wp2_with (first
                | ((with_reducible refine at_eqS ?_); refine wpu_eqS rfl (by kernel_rfl) rfl rfl (by assumption) ?_; go_frame)
                | ((with_reducible refine at_neS ?_); refine wpu_neS rfl (by kernel_rfl) rfl rfl (by assumption) ?_; go_frame)
                | fail)
              go_ret
              exact ⟨by rw [HB.out]; rfl, own_alloc h _⟩
            · cases q7
              · have HB : Hid (hopR (n, v, nv) = true) := Lib.hid (by rw [HB0]; rfl)
                clear HB0
                skip
                as_aux_lemma =>
                go_enter Tryd.func30, Tryd.ntmps30
                go_wp2_with (first
                  | ((with_reducible refine at_eqS ?_); refine wpu_eqS rfl (by kernel_rfl) rfl rfl (by assumption) ?_; go_frame)
                  | ((with_reducible refine at_neS ?_); refine wpu_neS rfl (by kernel_rfl) rfl rfl (by assumption) ?_; go_frame)
                  | fail)
                go_ret
                exact ⟨by rw [HB.out]; rfl, own_alloc h _⟩
              · have HB : Hid (hopR (n, v, nv) = false) := Lib.hid (by rw [HB0]; rfl)
                clear HB0
                skip
                as_aux_lemma =>
                go_enter Tryd.func30, Tryd.ntmps30
                go_wp2_with (first
                  | ((with_reducible refine at_eqS ?_); refine wpu_eqS rfl (by kernel_rfl) rfl rfl (by assumption) ?_; go_frame)
                  | ((with_reducible refine at_neS ?_); refine wpu_neS rfl (by kernel_rfl) rfl rfl (by assumption) ?_; go_frame)
                  | fail)
                go_ret
                exact ⟨by rw [HB.out]; rfl, own_alloc h _⟩
          · have HB : Hid (hopR (n, v, nv) = true) := Lib.hid (by rw [HB0]; rfl)
            clear HB0
            skip
            as_aux_lemma =>
            go_enter Tryd.func30, Tryd.ntmps30
            go_wp2_with (first
              | ((with_reducible refine at_eqS ?_); refine wpu_eqS rfl (by kernel_rfl) rfl rfl (by assumption) ?_; go_frame)
              | ((with_reducible refine at_neS ?_); refine wpu_neS rfl (by kernel_rfl) rfl rfl (by assumption) ?_; go_frame)
              | fail)
            go_ret
            exact ⟨by rw [HB.out]; rfl, own_alloc h _⟩
        · have HB : Hid (hopR (n, v, nv) = true) := Lib.hid (by rw [HB0]; rfl)
          clear HB0
          skip
          as_aux_lemma =>
          go_enter Tryd.func30, Tryd.ntmps30
          go_wp2_with (first
            | ((with_reducible refine at_eqS ?_); refine wpu_eqS rfl (by kernel_rfl) rfl rfl (by assumption) ?_; go_frame)
            | ((with_reducible refine at_neS ?_); refine wpu_neS rfl (by kernel_rfl) rfl rfl (by assumption) ?_; go_frame)
            | fail)
          go_ret
          exact ⟨by rw [HB.out]; rfl, own_alloc h _⟩
      · have HB : Hid (hopR (n, v, nv) = true) := Lib.hid (by rw [HB0]; rfl)
        clear HB0
        skip
        as_aux_lemma =>
        go_enter Tryd.func30, Tryd.ntmps30
        go_wp2_with (first
          | ((with_reducible refine at_eqS ?_); refine wpu_eqS rfl (by kernel_rfl) rfl rfl (by assumption) ?_; go_frame)
          | ((with_reducible refine at_neS ?_); refine wpu_neS rfl (by kernel_rfl) rfl rfl (by assumption) ?_; go_frame)
          | fail)
        go_ret
        exact ⟨by rw [HB.out]; rfl, own_alloc h _⟩
    · have HB : Hid (hopR (n, v, nv) = true) := Lib.hid (by rw [HB0]; rfl)
      clear HB0
      skip
      as_aux_lemma =>
      go_enter Tryd.func30, Tryd.ntmps30
      go_wp2_with (first
        | ((with_reducible refine at_eqS ?_); refine wpu_eqS rfl (by kernel_rfl) rfl rfl (by assumption) ?_; go_frame)
        | ((with_reducible refine at_neS ?_); refine wpu_neS rfl (by kernel_rfl) rfl rfl (by assumption) ?_; go_frame)
        | fail)
      go_ret
      exact ⟨by rw [HB.out]; rfl, own_alloc h _⟩
  · have HB : Hid (hopR (n, v, nv) = true) := Lib.hid (by rw [HB0]; rfl)
    clear HB0
    skip
    as_aux_lemma =>
    go_enter Tryd.func30, Tryd.ntmps30
    go_wp2_with (first
      | ((with_reducible refine at_eqS ?_); refine wpu_eqS rfl (by kernel_rfl) rfl rfl (by assumption) ?_; go_frame)
      | ((with_reducible refine at_neS ?_); refine wpu_neS rfl (by kernel_rfl) rfl rfl (by assumption) ?_; go_frame)
      | fail)
    go_ret
    exact ⟨by rw [HB.out]; rfl, own_alloc h _⟩
end Go.Proofs.YtnjldofiogbolaaDoor
