
/-
  StreamStays: what is closed stays closed, and what is broken is as it was.
-/
import Derived.Test.YtadbpekkmlblmaaStL
import Derived.Test.YtadbpekkmlblmaaLaw
namespace Go.Proofs.Ytadbpekkmlblmaa.streamStays
open Go.RowKit Go.Sl Go.ChangeShapes

def Stays (s : Int) (sends : Bool) (r : Int × Int × Nat) : Prop :=
  0 ≤ r.1 ∧ r.1 ≤ 6 ∧ (4 ≤ s → 4 ≤ r.1) ∧ (r.1 = 0 → s = 0) ∧
    ((r.2.1 = 0 ∧ r.2.2 = 0) ∨ (r.2.1 = 1 ∧ r.2.2 = 0 ∧ r.1 = s ∧ sends = false) ∨ (r.2.1 = 2 ∧ r.2.2 = 5 ∧ r.1 = 5 ∧ sends = false) ∨ (r.2.1 = 3 ∧ r.2.2 = 1 ∧ r.1 = s ∧ sends = false) ∨ (r.2.1 = 3 ∧ r.2.2 = 5 ∧ r.1 = s ∧ sends = false) ∨ (r.2.1 = 4 ∧ r.2.2 = 2 ∧ r.1 = s ∧ sends = true))

theorem stays_step {s k : Int} {e sends : Bool} (h0 : 0 ≤ s) (h6 : s ≤ 6) : Stays s sends (stepS s sends k e) := by
  cases sends <;> cases e <;> unfold stepS sentS gotS
  all_goals simp only [if_true, if_false, Bool.false_eq_true]
  all_goals
    repeat' split
    all_goals simp [Stays]
    all_goals omega

theorem spec0 {s k : Int} {e sends : Bool} (h0 : 0 ≤ s) (h6 : s ≤ 6) : ∃ x y z, stepS s sends k e = (x, y, z) ∧ 0 ≤ x ∧ x ≤ 6 ∧ (4 ≤ s → 4 ≤ x) ∧ (x = 0 → s = 0) ∧
    ((y = 0 ∧ z = 0) ∨ (y = 1 ∧ z = 0 ∧ x = s ∧ sends = false) ∨ (y = 2 ∧ z = 5 ∧ x = 5 ∧ sends = false) ∨ (y = 3 ∧ z = 1 ∧ x = s ∧ sends = false) ∨ (y = 3 ∧ z = 5 ∧ x = s ∧ sends = false) ∨ (y = 4 ∧ z = 2 ∧ x = s ∧ sends = true)) :=
  ⟨_, _, _, rfl, stays_step h0 h6⟩


set_option maxHeartbeats 8000000 in
set_option maxRecDepth 100000 in
theorem staysW {w0 : World} {s k : Int} {e sends : Bool} (k1 : -9223372036854775808 ≤ k) (k2 : k ≤ 9223372036854775807) :
    Calls Try.prog 5 #[.int .i64 s, .bool sends, .int .i64 k, .bool e] w0 fun e w' => e = .returned (.bool true) ∧ Below w0.heap.size w0 w' := by
  have G := own_begin w0
  obtain ⟨m, hm, hm2⟩ := and_i64 s 65535 (by decide)
  replace hm : bits .and .i64 s 65535 = (m : Int) := hm
  obtain ⟨x, y, z, he, x0, x6, h4, hz, hy⟩ := spec0 (s := (m : Int) % 7) (k := k) (e := e) (sends := sends) (by omega) (by omega)
  have HE := Lib.hid he
  clear he
  obtain ⟨r, hr⟩ : ∃ r, (m : Int) % 7 = r := ⟨_, rfl⟩
  have r0 : 0 ≤ r := by omega
  have r6 : r ≤ 6 := by omega
  rw [hr] at h4 hz hy HE
  have HM := Lib.hid hr
  go_enter Try.func5, Try.ntmps5
  go_wp2_with fail
  refine Calls.mono (shownSt G) ?_
  clear G; rintro e w ⟨rfl, G⟩
  go_wp2_with fail
  refine Calls.mono (stepE (s := r) G (by omega) (by omega) k1 k2 HE.out) ?_
  clear G HE hr hm; rintro e w ⟨rfl, G⟩
  have b1 : decide (x < 0) = false := by simp; omega
  have b2 : decide (6 < x) = false := by simp; omega
  rcases Int.lt_or_le r 4 with q4 | q4
  all_goals
    have c4 : (decide (4 ≤ r)) = decide (4 ≤ r) := rfl
    clear c4
    rcases Decidable.em (x = 0) with qx | qx
  · obtain rfl := hz qx
    subst qx
    rcases hy with ⟨rfl, rfl⟩ | ⟨rfl, rfl, _, rfl⟩ | ⟨rfl, rfl, hx, rfl⟩ | ⟨rfl, rfl, _, rfl⟩ | ⟨rfl, rfl, _, rfl⟩ | ⟨rfl, rfl, _, rfl⟩
    all_goals
      first
        | (exfalso; omega)
        | (have hq := HM.out
           go_wp2_with fail
           go_ret
           exact ⟨rfl, G.below⟩)
  · have d1 : (x == 0) = false := by simpa using qx
    have d2 : decide (x = 0) = false := by simpa using qx
    have d3 : decide (4 ≤ r) = false := by simp; omega
    rcases hy with ⟨rfl, rfl⟩ | ⟨rfl, rfl, rfl, rfl⟩ | ⟨rfl, rfl, hx, rfl⟩ | ⟨rfl, rfl, rfl, rfl⟩ | ⟨rfl, rfl, rfl, rfl⟩ | ⟨rfl, rfl, rfl, rfl⟩
    all_goals
      clear h4 hz qx
      have hq := HM.out
      go_wp2_with fail
      go_ret
      exact ⟨rfl, G.below⟩
  · exfalso; omega
  · have d1 : (x == 0) = false := by simpa using qx
    have d2 : decide (x = 0) = false := by simpa using qx
    have d3 : decide (4 ≤ r) = true := by simpa using q4
    have d4 : decide (x < 4) = false := by simp; omega
    rcases hy with ⟨rfl, rfl⟩ | ⟨rfl, rfl, rfl, rfl⟩ | ⟨rfl, rfl, hx, rfl⟩ | ⟨rfl, rfl, rfl, rfl⟩ | ⟨rfl, rfl, rfl, rfl⟩ | ⟨rfl, rfl, rfl, rfl⟩
    all_goals
      clear h4 hz qx
      have hq := HM.out
      go_wp2_with fail
      go_ret
      exact ⟨rfl, G.below⟩

theorem contract {H : Type} {enc : TypeId × Value → H} {W : World} {vs : List Value} {ds : List (DataW H)}
    (hA : Args enc Try.prog W [3, 4, 3, 4] vs ds) (hsz : (DataW.weightsEach Try.prog [3, 4, 3, 4] ds).all (· ≤ reachBytes) = true) :
    Calls Try.prog 5 vs.toArray W fun e W' => e = .returned (.bool true) ∧ Below W.heap.size W W' := by
  obtain ⟨v0, _, d0, _, rfl, rfl, h0, hA⟩ := args_cons hA
  obtain ⟨v1, _, d1, _, rfl, rfl, h1, hA⟩ := args_cons hA
  obtain ⟨v2, _, d2, _, rfl, rfl, h2, hA⟩ := args_cons hA
  obtain ⟨v3, _, d3, _, rfl, rfl, h3, hA⟩ := args_cons hA
  obtain ⟨rfl, rfl⟩ := args_nil hA
  obtain ⟨s, rfl, _, _⟩ := arg_i64 Try.underlying3 h0
  obtain ⟨b, rfl⟩ := arg_bool Try.underlying4 h1
  obtain ⟨k, rfl, k1, k2⟩ := arg_i64 Try.underlying3 h2
  obtain ⟨c, rfl⟩ := arg_bool Try.underlying4 h3
  exact staysW k1 k2


theorem spec {H : Type} : ∀ ds : List (DataW H), ds.length = 4 → Rows.streamStaysSpec.fn H ds = { results := [.lit (.bool true)], args := ds }
  | [_, _, _, _], _ => rfl
  | [], h => by cases h
  | [_], h => by cases h
  | [_, _], h => by cases h
  | [_, _, _], h => by cases h
  | _ :: _ :: _ :: _ :: _ :: _, h => by simp at h
set_option maxRecDepth 100000 in
theorem lifted (os : Os) (started : os.Started) (H : Type) (enc : TypeId × Value → H) :
    ReturnsInHanded {} Try.checked os 5 .any (Rows.streamStaysSpec.pre6 enc Try.prog Try.f5 Rows.streamStaysRow.domain false) (Rows.streamStaysSpec.post enc Try.prog Try.f5 false true false false) :=
  lifted_of_law (C := Try.checked) (fn := Try.f5) (s := Rows.streamStaysSpec) (tb := 4) (by kernel_rfl) started (by kernel_rfl) Try.func5
    (ChangeSpec.witness6 (enc := enc) (C := Try.checked) false ⟨#[], #[.int .i64 0, .bool false, .int .i64 0, .bool false], []⟩ 8 (by kernel_rfl) (by kernel_rfl) (by kernel_rfl) (by kernel_rfl))
    rfl spec (by kernel_rfl) Try.underlying4 (by kernel_rfl) (by kernel_rfl) (fun _ _ _ h1 h2 => contract h1 h2)

theorem proved : Rows.StreamStaysSaid :=
  OpenClaim.holds_of_wide 5 Try.f5 rfl rfl rfl rfl rfl rfl rfl ⟨rfl, rfl, rfl, rfl, rfl⟩ rfl rfl rfl rfl rfl (by kernel_rfl) Try.func5 (by kernel_rfl)
    (of_decide_eq_true (by kernel_rfl)) (by unfold Func.isWrapper; first | (rw [if_pos (by decide +kernel)]; kernel_rfl) | (rw [if_neg (by decide +kernel)]; exact ⟨rfl, rfl⟩))
    (fun os started H enc _ => lifted os started H enc)
end Go.Proofs.Ytadbpekkmlblmaa.streamStays
