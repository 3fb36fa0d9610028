
/-
  MatchNames: large and small letters are one, and a port does not matter.
-/
import Derived.Test.YtndlfieignhjjaaDoorMtLarge
import Derived.Test.YtndlfieignhjjaaDoorLawD
import Derived.Test.YtndlfieignhjjaaDoorTie
import Derived.Test.YtndlfieignhjjaaDoorCards
import Derived.SevenTiedAt
namespace Go.Proofs.YtndlfieignhjjaaDoor.matchNames
open Go.RowKit Go.Sl Go.ChangeShapes

theorem exec_buildT {P : Program} {w w' : World} {o : Oper} {a : Act} {T : TypeId} {n : Nat} {parts : Array (Nat × Operand)} {v : Value} (ps : Array (Nat × Value)) (ho : o.op = .buildSlice T n parts) (hp : (parts.map fun (i, x) => (i, a.eval x)) = ps) (hr : (Instr.buildSlice T n ps).run P w = .ok v w') : (execOp a.eval o).run P w = .ok (.value v) w' := by
  unfold execOp
  rw [ho]
  subst hp
  simp [hr]
theorem build_two (x y : Int) (w : World) : (Instr.buildSlice 31 2 #[(0, .int .u8 x), (1, .int .u8 y)]).run Tryd.prog w = .ok (.slice (some ⟨w.heap.size, 0, none⟩) 2 2) (w.alloc (.cells [.int .u8 x, .int .u8 y].toArray 5)) := by kernel_rfl

theorem octal (p : Int) : ∃ x : UInt8, 48 + bits .and .i64 p 7 = (x.toNat : Int) ∧ x.toNat ≤ 57 ∧ digit x = true := by
  obtain ⟨m, hm, hm'⟩ := and_i64 p 7 (by decide)
  replace hm : bits .and .i64 p 7 = (m : Int) := hm
  rw [hm]
  have key : ∀ n : Fin 8, (48 : Int) + ((n.val : Nat) : Int) = ((UInt8.ofNat (48 + n.val)).toNat : Int) ∧ (UInt8.ofNat (48 + n.val)).toNat ≤ 57 ∧ digit (UInt8.ofNat (48 + n.val)) = true := by decide
  exact ⟨_, key ⟨m, by omega⟩⟩


set_option maxHeartbeats 8000000 in
set_option maxRecDepth 100000 in
theorem namesW {w0 : World} {l1 l2 : Txt} {port : Int} (h1 : l1.length ≤ 9223372036854775807) (h2 : l2.length ≤ 9223372036854775807) : Calls Tryd.prog 6 #[str l1, str l2, .int .i64 port] w0 fun e w' => e = .returned (.bool true) ∧ Below w0.heap.size w0 w' := by
  have G := own_begin w0
  have k1 := letters_len l1
  have k2 := letters_len l2
  have oa := Ok.plain (letters_plain l1)
  have ob := Ok.plain (letters_plain l2)
  obtain ⟨a, ha⟩ : ∃ x, lettersL l1 = x := ⟨_, rfl⟩
  obtain ⟨b, hb⟩ : ∃ x, lettersL l2 = x := ⟨_, rfl⟩
  rw [ha] at k1 oa
  rw [hb] at k2 ob
  have HA := Lib.hid ha
  have HB := Lib.hid hb
  clear ha hb
  obtain ⟨x, hx, hx57, hxd⟩ := octal port
  obtain ⟨y, hy, hy57, hyd⟩ := octal (port / 8)
  obtain ⟨m1, hm1⟩ : ∃ m, bits .and .i64 port 7 = m := ⟨_, rfl⟩
  obtain ⟨m2, hm2⟩ : ∃ m, bits .and .i64 (port / 8) 7 = m := ⟨_, rfl⟩
  rw [hm1] at hx
  rw [hm2] at hy
  obtain ⟨p, hp⟩ : ∃ p : Txt, [58] ++ [x, y] = p := ⟨_, rfl⟩
  obtain ⟨bp, hbp⟩ : ∃ t : Txt, b ++ p = t := ⟨_, rfl⟩
  obtain ⟨la, hla⟩ : ∃ t, largeL a = t := ⟨_, rfl⟩
  obtain ⟨lb, hlb⟩ : ∃ t, largeL b = t := ⟨_, rfl⟩
  obtain ⟨want, hwant⟩ : ∃ t : Int, (if a = b then 1000 + (a.length : Int) else 0) = t := ⟨_, rfl⟩
  have V1 : hostR a b = want := by rw [host_same oa ob, hwant]
  have V2 : hostR la bp = want := by
    rw [← hla, ← hbp, ← hp]
    show hostR (largeL a) (b ++ [58, x, y]) = want
    rw [host_large oa (n' := b) (ob.namePort hxd hyd), hwant]
  have V3 : hostR a lb = want := by rw [← hlb, host_eq oa ob.nameLarge, hwant]
  have V4 : hostR [42] b = 1 := rfl
  have L1 : la.length ≤ 1000000 := by rw [← hla]; simp [largeL]; omega
  have L2 : lb.length ≤ 1000000 := by rw [← hlb]; simp [largeL]; omega
  have hpl : p.length = 3 := by rw [← hp]; rfl
  have L3 : bp.length ≤ 1000000 := by rw [← hbp]; simp; omega
  have L4 : a.length ≤ 1000000 := by omega
  have L5 : b.length ≤ 1000000 := by omega
  have C1 : Hid (∀ w A, Own w0 A w → Calls Tryd.prog 18 #[str a, str b] w fun e w' => e = .returned (.int .i64 want) ∧ Own w0 A w') := Lib.hid fun w A h => by have := hostC L4 L5 h; rwa [V1] at this
  have C2 : Hid (∀ w A, Own w0 A w → Calls Tryd.prog 18 #[str la, str bp] w fun e w' => e = .returned (.int .i64 want) ∧ Own w0 A w') := Lib.hid fun w A h => by have := hostC L1 L3 h; rwa [V2] at this
  have C3 : Hid (∀ w A, Own w0 A w → Calls Tryd.prog 18 #[str a, str lb] w fun e w' => e = .returned (.int .i64 want) ∧ Own w0 A w') := Lib.hid fun w A h => by have := hostC L4 L2 h; rwa [V3] at this
  have C4 : Hid (∀ w A, Own w0 A w → Calls Tryd.prog 18 #[str [42], str b] w fun e w' => e = .returned (.int .i64 1) ∧ Own w0 A w') := Lib.hid fun w A h => by have := hostC (pat := [42]) (by decide) L5 h; rwa [V4] at this
  have D1 : Hid (∀ w A, Own w0 A w → Calls Tryd.prog 21 #[str a] w fun e w' => e = .returned (str la) ∧ Own w0 A w') := Lib.hid fun w A h => by have := largeLC L4 h; rwa [hla] at this
  have D2 : Hid (∀ w A, Own w0 A w → Calls Tryd.prog 21 #[str b] w fun e w' => e = .returned (str lb) ∧ Own w0 A w') := Lib.hid fun w A h => by have := largeLC L5 h; rwa [hlb] at this
  have E1 := Lib.hid hp
  have E2 := Lib.hid hbp
  clear hp hbp hla hlb V1 V2 V3 V4 oa ob hxd hyd
  go_enter Tryd.func6, Tryd.ntmps6
  go_wp2_with fail
  refine Calls.mono (shownMt G) ?_
  clear G; rintro e w ⟨rfl, G⟩
  go_wp2_with fail
  refine Calls.mono (lettersC h1 G) ?_
  clear G; rintro e w ⟨rfl, G⟩
  rw [HA.out]
  go_wp2_with fail
  refine Calls.mono (lettersC h2 G) ?_
  clear G; rintro e w ⟨rfl, G⟩
  rw [HB.out]
  clear HA HB
  have HBU := Lib.hid (build_two (x.toNat : Int) (y.toNat : Int) w)
  have G2 : Own w0 (sl 1 (.slice (some ⟨w.heap.size, 0, none⟩) 2 2) 2 (bs [x, y]) * emp) (w.alloc (.cells [.int .u8 (x.toNat : Int), .int .u8 (y.toNat : Int)].toArray 5)) := own_new_sl (n := 2) (sz := 1) G (bs [x, y]) 5 rfl (by decide)
  by_cases hab : a = b
  · have hab0 : decide (a = b) = true := by simp [hab]
    rw [if_pos hab] at hwant
    clear hab
    go_wp2_with (first
      | ((with_reducible refine at_build ?_); refine wpu_val rfl (exec_buildT _ rfl (by kernel_rfl) HBU.out) ?_; clear G; have G := G2; clear G2; go_frame)
      | ((with_reducible refine at_convert ?_); refine wpu_strR (G.rd (.slice (some ⟨w.heap.size, 0, none⟩) 2 2) _ G) rfl rfl rfl ?_; go_frame)
      | ((with_reducible refine at_addS ?_); refine wpu_addS (r := p) rfl (by kernel_rfl) rfl rfl E1.out (by simp) ?_; go_frame)
      | ((with_reducible refine at_eqS ?_); refine wpu_eqS rfl (by kernel_rfl) rfl rfl hab0 ?_; go_frame)
      | fail)
    skip
    as_aux_lemma =>
    go_wp2_with (first
      | ((with_reducible refine at_addS ?_); refine wpu_addS (r := bp) rfl (by kernel_rfl) rfl rfl E2.out (by omega) ?_; go_frame)
      | (go_at_call 21; first
        | ((with_reducible refine Calls.mono (D1.out _ _ G) ?_); clear G; rintro e w ⟨rfl, G⟩)
        | ((with_reducible refine Calls.mono (D2.out _ _ G) ?_); clear G; rintro e w ⟨rfl, G⟩))
      | (go_at_call 18; first
        | ((with_reducible refine Calls.mono (C1.out _ _ G) ?_); clear G; rintro e w ⟨rfl, G⟩)
        | ((with_reducible refine Calls.mono (C2.out _ _ G) ?_); clear G; rintro e w ⟨rfl, G⟩)
        | ((with_reducible refine Calls.mono (C3.out _ _ G) ?_); clear G; rintro e w ⟨rfl, G⟩)
        | ((with_reducible refine Calls.mono (C4.out _ _ G) ?_); clear G; rintro e w ⟨rfl, G⟩))
      | ((with_reducible refine at_eqS ?_); refine wpu_eqS rfl (by kernel_rfl) rfl rfl hab0 ?_; go_frame)
      | fail)
    go_ret
    exact ⟨rfl, G.below⟩
  · have hab0 : decide (a = b) = false := by simp [hab]
    rw [if_neg hab] at hwant
    subst hwant
    clear hab
    go_wp2_with (first
      | ((with_reducible refine at_build ?_); refine wpu_val rfl (exec_buildT _ rfl (by kernel_rfl) HBU.out) ?_; clear G; have G := G2; clear G2; go_frame)
      | ((with_reducible refine at_convert ?_); refine wpu_strR (G.rd (.slice (some ⟨w.heap.size, 0, none⟩) 2 2) _ G) rfl rfl rfl ?_; go_frame)
      | ((with_reducible refine at_addS ?_); refine wpu_addS (r := p) rfl (by kernel_rfl) rfl rfl E1.out (by simp) ?_; go_frame)
      | ((with_reducible refine at_eqS ?_); refine wpu_eqS rfl (by kernel_rfl) rfl rfl hab0 ?_; go_frame)
      | fail)
    skip
    as_aux_lemma =>
    go_wp2_with (first
      | ((with_reducible refine at_addS ?_); refine wpu_addS (r := bp) rfl (by kernel_rfl) rfl rfl E2.out (by omega) ?_; go_frame)
      | (go_at_call 21; first
        | ((with_reducible refine Calls.mono (D1.out _ _ G) ?_); clear G; rintro e w ⟨rfl, G⟩)
        | ((with_reducible refine Calls.mono (D2.out _ _ G) ?_); clear G; rintro e w ⟨rfl, G⟩))
      | (go_at_call 18; first
        | ((with_reducible refine Calls.mono (C1.out _ _ G) ?_); clear G; rintro e w ⟨rfl, G⟩)
        | ((with_reducible refine Calls.mono (C2.out _ _ G) ?_); clear G; rintro e w ⟨rfl, G⟩)
        | ((with_reducible refine Calls.mono (C3.out _ _ G) ?_); clear G; rintro e w ⟨rfl, G⟩)
        | ((with_reducible refine Calls.mono (C4.out _ _ G) ?_); clear G; rintro e w ⟨rfl, G⟩))
      | ((with_reducible refine at_eqS ?_); refine wpu_eqS rfl (by kernel_rfl) rfl rfl hab0 ?_; go_frame)
      | fail)
    go_ret
    exact ⟨rfl, G.below⟩

theorem contract {H : Type} {enc : TypeId × Value → H} {W : World} {vs : List Value} {ds : List (DataW H)}
    (hA : Args enc Tryd.prog W [9, 9, 3] vs ds) (hsz : (DataW.weightsEach Tryd.prog [9, 9, 3] ds).all (· ≤ reachBytes) = true) (hL : laidMetH Tryd.prog Rows.matchNamesRow.laid W) :
    Calls Tryd.prog 6 vs.toArray W fun e W' => e = .returned (.bool true) ∧ Below W.heap.size W W' := by
  obtain ⟨v0, _, d0, _, rfl, rfl, h0, hA⟩ := args_cons hA
  obtain ⟨v1, _, d1, _, rfl, rfl, h1, hA⟩ := args_cons hA
  obtain ⟨v2, _, d2, _, rfl, rfl, h2, hA⟩ := args_cons hA
  obtain ⟨rfl, rfl⟩ := args_nil hA
  obtain ⟨l1, rfl, k1, -⟩ := arg_string Tryd.underlying9 h0
  obtain ⟨l2, rfl, k2, -⟩ := arg_string Tryd.underlying9 h1
  obtain ⟨n, rfl, -⟩ := arg_i64 Tryd.underlying3 h2
  unfold maxLen at k1 k2
  exact namesW (by omega) (by omega)


theorem spec {H : Type} : ∀ ds : List (DataW H), ds.length = 3 → Rows.matchNamesSpec.fn H ds = { results := [.lit (.bool true)], args := ds }
  | [_, _, _], _ => rfl
  | [], h => by cases h
  | [_], h => by cases h
  | [_, _], h => by cases h
  | _ :: _ :: _ :: _ :: _, h => by simp at h
theorem door_met (os : Os) (args : Array Value) : laidMetH Tryd.prog Rows.matchNamesRow.laid ((World.setRow (World.doorLaid Tryd.prog 19 os) (Tryd.prog.globalNamed "unicode/utf8.first").get! (Go.Pinned.utf8FirstZ.map fun z : Nat => Value.int .u8 (z : Int)).toArray).forCall (fun _ _ => 0) ⟨#[], args, []⟩).memory :=
  laidMetH_of_parts3 (fuel := 8) (laidMet_of_run' 8 (by kernel_rfl) (by kernel_rfl)) (by kernel_rfl) (by kernel_rfl)
set_option maxRecDepth 100000 in
theorem lifted (os : Os) (started : os.Started) (H : Type) (enc : TypeId × Value → H) :
    ReturnsInHanded {} Tryd.checked os 6 .any (fun w args => (Rows.matchNamesSpec.pre enc Tryd.prog Tryd.f6 Rows.matchNamesRow.domain false w args ∧ laidMetH Tryd.prog Rows.matchNamesRow.laid w) ∧ sizedMet enc Tryd.prog Tryd.f6 (OpenSpec.ofChange Rows.matchNamesSpec) false w args)
      (Rows.matchNamesSpec.post enc Tryd.prog Tryd.f6 false true false false) :=
  lifted_of_law_laid (C := Tryd.checked) (fn := Tryd.f6) (s := Rows.matchNamesSpec) (tb := 4) (by kernel_rfl) started (by kernel_rfl) Tryd.func6
    (ChangeSpec.witness_shaped (enc := enc) (C := Tryd.checked) (os := os) (X := fun w _ => laidMetH Tryd.prog Rows.matchNamesRow.laid w) false (World.setRow (World.doorLaid Tryd.prog 19 os) (Tryd.prog.globalNamed "unicode/utf8.first").get! (Go.Pinned.utf8FirstZ.map fun z : Nat => Value.int .u8 (z : Int)).toArray) #[.string ⟨#[]⟩, .string ⟨#[]⟩, .int .i64 0] 8 rfl (World.shaped_of_RefB (by kernel_rfl) (by kernel_rfl)) (by kernel_rfl) (by kernel_rfl) (by kernel_rfl) (door_met os _))
    rfl spec (by kernel_rfl) Tryd.underlying4 (by kernel_rfl) (by kernel_rfl) (fun _ _ _ h1 h2 h3 => contract h1 h2 h3)

theorem holds : Rows.MatchNamesSaid :=
  OpenClaim.holds_of_wide 6 Tryd.f6 rfl rfl rfl rfl rfl rfl rfl ⟨rfl, rfl, rfl, rfl, rfl⟩ rfl rfl rfl rfl rfl (by kernel_rfl) Tryd.func6 (by kernel_rfl)
    (of_decide_eq_true (by kernel_rfl)) (by unfold Func.isWrapper; first | (rw [if_pos (by decide +kernel)]; kernel_rfl) | (rw [if_neg (by decide +kernel)]; exact ⟨rfl, rfl⟩))
    (fun os started H enc _ => lifted os started H enc)

theorem proved : Rows.MatchNamesCardSaid :=
  Claim7.holds_tied_plain_at .later [] [.data, .pinned] true (true, "f900cad1524d6485163f1f119ee05e345095a2ecf467c548b528305676b6aa51") false
    holds (fun _ h => by cases h) (by kernel_rfl) (fun _ h => by cases h) matchNames_row_tie rfl ⟨rfl, rfl⟩ (by kernel_rfl) rfl
    (fun f fn hf hfn => by
      obtain rfl : f = 6 := Option.some.inj ((show Tryd.prog.funcNamed "flume/flumelaw15.MatchNames" = some 6 by kernel_rfl).symm.trans hf) |>.symm
      obtain rfl : fn = Tryd.f6 := (Option.some.inj (Tryd.func6.symm.trans hfn)).symm
      exact ⟨by kernel_rfl, fun j t ht => by
        rw [Tryd.params6] at ht
        have hm : t ∈ [9, 9, 3] := by simpa using Array.mem_of_getElem? ht
        have hall : ([9, 9, 3].all fun u => !Tryd.prog.wantsStandIn u) = true := by kernel_rfl
        exact (show Tryd.prog.wantsStandIn t = false by simpa using List.all_eq_true.1 hall t hm)⟩)
    (by kernel_rfl)
end Go.Proofs.YtndlfieignhjjaaDoor.matchNames
