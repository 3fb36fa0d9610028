
/-
  BlockWhole: a block that is cut is the block.
-/
import Derived.Test.YtbjfokpdomogeaaBlkL
import Derived.Test.YtbjfokpdomogeaaLaw
namespace Go.Proofs.Ytbjfokpdomogeaa.blockWhole
open Go.RowKit Go.Sl Go.ChangeShapes

/-- a literal frame -/
@[go_sem] def mkF (kind stream : Int) (fin eh : Bool) (pay : Value) : Fr := ⟨kind, stream, fin, eh, false, false, pay, 0, 0, 0, false, 0, 0, .slice none 0 0, 0, 0⟩

def Pieces (w : World) (ps : List Value) (ls : List (List UInt8)) : Prop := ps.length = ls.length ∧ ∀ i, i < ps.length → ∃ v l, ps[i]? = some v ∧ ls[i]? = some l ∧ rd w 1 v l.length (bs l)

theorem pieces_nil (w : World) : Pieces w [] [] := ⟨rfl, fun i hi => by simp at hi⟩
theorem pieces_snoc {w : World} {ps : List Value} {ls : List (List UInt8)} (h : Pieces w ps ls) {v : Value} {l : List UInt8} (hr : rd w 1 v l.length (bs l)) : Pieces w (ps ++ [v]) (ls ++ [l]) := by
  refine ⟨by simp [h.1], fun i hi => ?_⟩
  by_cases e : i < ps.length
  · obtain ⟨v', l', h1, h2, h3⟩ := h.2 i e
    exact ⟨v', l', by rw [List.getElem?_append_left e, h1], by rw [List.getElem?_append_left (by rw [← h.1]; exact e), h2], h3⟩
  · simp at hi
    obtain rfl : i = ps.length := by omega
    exact ⟨v, l, by simp, by simp [h.1], hr⟩

theorem flat_step {ls : List (List UInt8)} {q : Nat} {l : List UInt8} (h : ls[q]? = some l) : (ls.take q).flatten ++ l = (ls.take (q + 1)).flatten := by
  rw [List.take_add_one, h]
  simp
theorem flat_le {ls : List (List UInt8)} (q : Nat) : (ls.take q).flatten.length ≤ ls.flatten.length := by
  have h : ls = ls.take q ++ ls.drop q := (List.take_append_drop q ls).symm
  have e : ls.flatten = (ls.take q).flatten ++ (ls.drop q).flatten := by
    rw [← List.flatten_append, ← h]
  rw [e, List.length_append]
  omega

section
variable {w0 w : World} {R : Assn} {a : Nat} {l lg y : List UInt8} {stream st kind : Int} {fin fn eh : Bool} {v v0 : Value} {q p : Nat}
theorem step0 (h : l.length ≤ 1000) (hq : q = 0) (e : (([] : List UInt8)) ++ l = y) : Asm.step ⟨1000, none, 0, none⟩ (mkF 1 stream fin false v) l = (⟨1000, some (mkF 1 stream fin false v, y), q + 1 - 1, none⟩, .more) := by
  subst e hq
  have : ¬ 1000 < l.length := by omega
  simp [Asm.step, Asm.wrong, mkF, this]
theorem step0w (h : l.length ≤ 1000) (hq : q = 0) (e : (([] : List UInt8)) ++ l = y) : Asm.step ⟨1000, none, 0, none⟩ (mkF 1 stream fin true v) l = (⟨1000, none, q, none⟩, .whole (mkF 1 stream fin true v) y) := by
  subst e hq
  have : ¬ 1000 < l.length := by omega
  simp [Asm.step, Asm.wrong, mkF, this]
theorem stepq (h : lg.length + l.length ≤ 1000) (h1 : 0 < q) (h2 : q ≤ 32) (e : lg ++ l = y) : Asm.step ⟨1000, some (mkF 1 stream fin false v0, lg), q - 1, none⟩ (mkF 9 stream false false v) l = (⟨1000, some (mkF 1 stream fin false v0, y), q + 1 - 1, none⟩, .more) := by
  subst e
  have e1 : ¬ 1000 < l.length + lg.length := by omega
  have e2 : ¬ q - 1 = 32 := by omega
  have e3 : q - 1 + 1 = q := by omega
  simp [Asm.step, Asm.wrong, mkF, e1, e2, e3]
theorem stepqw (h : lg.length + l.length ≤ 1000) (h1 : 0 < q) (h2 : q ≤ 32) (e : lg ++ l = y) : Asm.step ⟨1000, some (mkF 1 stream fin false v0, lg), q - 1, none⟩ (mkF 9 stream false true v) l = (⟨1000, none, q, none⟩, .whole (mkF 1 stream fin false v0) y) := by
  subst e
  have e1 : ¬ 1000 < l.length + lg.length := by omega
  have e2 : ¬ q - 1 = 32 := by omega
  have e3 : q - 1 + 1 = q := by omega
  simp [Asm.step, Asm.wrong, mkF, e1, e2, e3]
theorem can0 (G : Own w0 (asmA a ⟨1000, none, p, none⟩ * R) w) {f : Fr} (hf : f.lst = .slice none 0 0) (hr : rd w0 1 f.pay l.length (bs l)) (hl : l.length ≤ 1000) (hp : p ≤ 32) : Can w0 w R a ⟨1000, none, p, none⟩ f l 0 [] :=
  ⟨G, fun w h => hr.old h, fun w _ => by rw [hf]; exact rd_nil w 2, by simp, by omega, by decide, Nat.zero_le _, hp, by intro _ _ e; cases e⟩
theorem canq (G : Own w0 (asmA a ⟨1000, some (mkF 1 stream fin eh v0, lg), p, none⟩ * R) w) {f : Fr} (hf : f.lst = .slice none 0 0) (hr : rd w0 1 f.pay l.length (bs l)) (hl : l.length ≤ 1000) (hg : lg.length ≤ 1000) (hp : p ≤ 32) : Can w0 w R a ⟨1000, some (mkF 1 stream fin eh v0, lg), p, none⟩ f l 0 [] :=
  ⟨G, fun w h => hr.old h, fun w _ => by rw [hf]; exact rd_nil w 2, by simp, by omega, by decide, by show lg.length ≤ _; omega, hp, by intro _ _ e; cases e; rfl⟩
theorem canb (G : Own w0 (asmA a ⟨1000, none, p, some 1⟩ * R) w) {f : Fr} (hf : f.lst = .slice none 0 0) (hr : rd w0 1 f.pay l.length (bs l)) (hl : l.length ≤ 1000) (hp : p ≤ 32) : Can w0 w R a ⟨1000, none, p, some 1⟩ f l 0 [] :=
  ⟨G, fun w h => hr.old h, fun w _ => by rw [hf]; exact rd_nil w 2, by simp, by omega, by decide, Nat.zero_le _, hp, by intro _ _ e; cases e⟩
theorem stepD : Asm.step ⟨1000, some (mkF 1 stream fin false v0, lg), p, none⟩ (mkFr 0 stream false (.slice none 0 0)) [] = (⟨1000, none, p, some 1⟩, .fault 1) := by
  simp [Asm.step, Asm.wrong, mkFr]
theorem stepB : Asm.step ⟨1000, none, p, some 1⟩ (mkFr 6 0 false (.slice none 0 0)) [] = (⟨1000, none, p, some 1⟩, .fault 1) := rfl
end



set_option maxHeartbeats 40000000 in
set_option maxRecDepth 100000 in
theorem wholeW {w0 : World} {bv cv : Value} {b : List UInt8} {nc : Nat} {xc : List Value} {stream at_ : Int} {fin : Bool} (hb : rd w0 1 bv b.length (bs b)) (hc : rd w0 1 cv nc xc) (hel : ∀ i, i < nc → ∃ x, xc[i]? = some (.int .i64 x) ∧ -9223372036854775808 ≤ x ∧ x ≤ 9223372036854775807) :
    Calls Try.prog 3 #[bv, cv, .int .i64 stream, .bool fin, .int .i64 at_] w0 fun e w' => e = .returned (.bool true) ∧ Below w0.heap.size w0 w' := by
  have G := own_begin w0
  obtain ⟨bo, bc, rfl, j1, j2, -⟩ := id hb
  obtain ⟨co, cc, rfl, j3, j4, -⟩ := id hc
  unfold maxLen at j2 j4
  obtain ⟨y, ey, e1, e1', e2, hy⟩ := rd_first hb 1000 (K := 1000) rfl
  obtain ⟨m2, hm2, hm2'⟩ := and_i64 at_ 31 (by decide)
  replace hm2 : bits .and .i64 at_ 31 = (m2 : Int) := hm2
  have M2 := Lib.hid hm2
  have HY := Lib.hid hy
  have HC := Lib.hid hc
  clear hb hc hy ey hm2
  go_enter Try.func3, Try.ntmps3
  go_wp2_with fail
  refine Calls.mono (shownBlk G) ?_
  clear G; rintro e w ⟨rfl, G⟩
  go_wp2_with fail
  refine Calls.mono (newBlk 1000 G) ?_
  clear G; rintro e w ⟨a, rfl, G⟩
  go_wp2_with fail
  refine Calls.mono (newBlk 1000 G) ?_
  clear G; rintro e w ⟨c, rfl, G⟩
  replace G : Own _ (asmA c ⟨1000, none, 0, none⟩ * (asmA a ⟨1000, none, 0, none⟩ * emp)) w := G
  go_wp2_with fail
  replace G := own_nil G 1
  go_loopw [14, 15, 16] (fun p r i wr => ∃ (k : Nat) (ps : List Value) (ls : List (List UInt8)) (rl : List UInt8), i = .int .i64 k ∧ k ≤ 32 ∧ k ≤ nc ∧ ps.length = k ∧ Pieces w0 ps ls ∧ rd w0 1 r rl.length (bs rl) ∧ ls.flatten ++ rl = y ∧ Own w0 (sl 1 p k ps * (asmA c ⟨1000, none, 0, none⟩ * (asmA a ⟨1000, none, 0, none⟩ * emp))) wr) (fun _ _ i _ => nc - (intOf i).toNat)
  case atStart => exact ⟨0, [], [], y, rfl, by omega, by omega, rfl, pieces_nil _, HY.out, rfl, G⟩
  case round =>
    clear G
    obtain ⟨k, ps, ls, rl, rfl, hk, hk2, hps, hP, hr, hfl, G⟩ := hrel
    obtain ⟨ro, rc, rfl, j5, j6, -⟩ := id hr
    unfold maxLen at j6
    have hrl : rl.length ≤ 1000 := by rw [← hfl] at e1; simp at e1; omega
    have HFL := Lib.hid hfl
    have HR := Lib.hid hr
    have HPS := Lib.hid hps
    clear hr hfl hps
    obtain ⟨qo, qc, rfl, j7, j8⟩ := G.hdr u14
    unfold maxLen at j8
    by_cases hlt : k < nc ∧ k < 32
    · as_aux_lemma =>
      obtain ⟨hlt, hlt2⟩ := hlt
      obtain ⟨x, hx, x1, x2⟩ := hel k hlt
      obtain ⟨ad, rfl⟩ := rd_some HC.out (by omega)
      have HX := Lib.hid hx
      clear hx
      obtain ⟨m, hm, hm'⟩ := and_i64 x 63 (by decide)
      replace hm : bits .and .i64 x 63 = (m : Int) := hm
      obtain ⟨N, hN0, hN⟩ : ∃ N : Nat, min (rl.length : Int) (m : Int) = (N : Int) ∧ N ≤ rl.length := ⟨min rl.length m, by omega, by omega⟩
      go_wp2_with (first
        | ((with_reducible refine at_alloc ?_); refine wpu_new G ?_; clear G; intro w G)
        | ((with_reducible refine at_drew ?_); refine wpu_drew G ?_; clear G; intro w G)
        | ((with_reducible refine at_load ?_); first
          | (refine wpu_load G rfl rfl rfl rfl ?_; go_frame)
          | (refine wpu_loadB G rfl rfl rfl (by rfl) ?_; go_frame)
          | (refine wpu_loadS G rfl rfl rfl (by rfl) ?_; simp only [List.drop_succ_cons, List.drop_zero, List.take_succ_cons, List.take_zero]; go_frame))
        | ((with_reducible refine at_store ?_); first
          | (refine wpu_store G rfl rfl rfl rfl (by first | rfl | assumption | simp [*]) rfl ?_; clear G; intro w G; go_frame)
          | (refine wpu_storeB G rfl rfl rfl rfl (by rfl) (by rfl) (by first | rfl | assumption | simp [*]) ?_; clear G; intro w G; go_frame)
          | (refine wpu_storeS G rfl rfl rfl rfl (by rfl) (by rfl) (by first | rfl | assumption | simp [*]) ?_; clear G; intro w G; go_frame))
        | ((with_reducible refine at_convert ?_); refine wpu_str G rfl rfl rfl rfl ?_; go_frame)
        | ((with_reducible refine at_slice ?_); first
          | (refine wpu_sliceLo rfl rfl rfl rfl (by first | rfl | omega) (by omega) (by omega) ?_; go_frame)
          | (refine wpu_sliceLH rfl rfl rfl rfl rfl (by first | rfl | omega) (by first | rfl | omega) (by omega) (by omega) ?_; go_frame))
        | ((with_reducible refine at_load ?_); refine wpu_loadC (HC.out.old G) HX.out rfl rfl rfl ?_; go_frame)
        | ((with_reducible refine at_append ?_); refine wpu_append1 G rfl rfl rfl rfl (by rfl) (by rfl) (by unfold maxLen; omega) (by omega) ?_; clear G; intro v w G; go_frame))
      go_roundw
      case rel => exact ⟨k + 1, _, _, rl.drop N, by go_num, by omega, by omega, by simp [HPS.out], pieces_snoc hP (rd_bs_take HR.out hN), rd_bs_drop HR.out hN, by rw [← HFL.out]; simp, G⟩
      case measure => simp [intOf] <;> omega
    · go_wp2_with (first
        | ((with_reducible refine at_alloc ?_); refine wpu_new G ?_; clear G; intro w G)
        | ((with_reducible refine at_drew ?_); refine wpu_drew G ?_; clear G; intro w G)
        | ((with_reducible refine at_load ?_); first
          | (refine wpu_load G rfl rfl rfl rfl ?_; go_frame)
          | (refine wpu_loadB G rfl rfl rfl (by rfl) ?_; go_frame)
          | (refine wpu_loadS G rfl rfl rfl (by rfl) ?_; simp only [List.drop_succ_cons, List.drop_zero, List.take_succ_cons, List.take_zero]; go_frame))
        | ((with_reducible refine at_store ?_); first
          | (refine wpu_store G rfl rfl rfl rfl (by first | rfl | assumption | simp [*]) rfl ?_; clear G; intro w G; go_frame)
          | (refine wpu_storeB G rfl rfl rfl rfl (by rfl) (by rfl) (by first | rfl | assumption | simp [*]) ?_; clear G; intro w G; go_frame)
          | (refine wpu_storeS G rfl rfl rfl rfl (by rfl) (by rfl) (by first | rfl | assumption | simp [*]) ?_; clear G; intro w G; go_frame))
        | ((with_reducible refine at_convert ?_); refine wpu_str G rfl rfl rfl rfl ?_; go_frame)
        | ((with_reducible refine at_slice ?_); first
          | (refine wpu_sliceLo rfl rfl rfl rfl (by first | rfl | omega) (by omega) (by omega) ?_; go_frame)
          | (refine wpu_sliceLH rfl rfl rfl rfl rfl (by first | rfl | omega) (by first | rfl | omega) (by omega) (by omega) ?_; go_frame))
        | ((with_reducible refine at_append ?_); refine wpu_append1 G rfl rfl rfl rfl (by rfl) (by rfl) (by unfold maxLen; omega) (by omega) ?_; clear G; intro v w G; go_frame))
      all_goals
        as_aux_lemma =>
        obtain ⟨qs, hqs⟩ : ∃ qs, ps ++ [Value.slice ro rl.length rc] = qs := ⟨_, rfl⟩
        have hQ := pieces_snoc hP HR.out
        have hq1 : qs.length = k + 1 := by rw [← hqs]; simp [HPS.out]
        rw [hqs] at G hQ
        obtain ⟨zs, hzs⟩ : ∃ zs, ls ++ [rl] = zs := ⟨_, rfl⟩
        have hz : zs.flatten = y := by rw [← hzs, ← HFL.out]; simp
        rw [hzs] at hQ
        clear hqs hzs hP HFL HR HPS
        obtain ⟨vo, vc, rfl, i1, i2⟩ := G.hdr v
        unfold maxLen at i2
        have HQ1 := Lib.hid hq1
        have HZ := Lib.hid hz
        clear hq1 hz
        go_loopw [18] (fun i wr => ∃ (q : Nat) (s : Asm), i = .int .i64 q ∧ q ≤ k + 1 ∧ (q = 0 → s = ⟨1000, none, 0, none⟩) ∧ (0 < q → q < k + 1 → ∃ v0, s = ⟨1000, some (mkF 1 stream fin false v0, (zs.take q).flatten), q - 1, none⟩) ∧ Own w0 (sl 1 (.slice vo (k + 1) vc) (k + 1) qs * (asmA c s * (asmA a s * emp))) wr) (fun i _ => k + 1 - (intOf i).toNat)
        case atStart => exact ⟨0, _, rfl, by omega, fun _ => rfl, fun h => by omega, G⟩
        case round =>
          clear G
          obtain ⟨q, s, rfl, hq, hs0, hs1, G⟩ := hrel
          by_cases hlt : q < k + 1
          · obtain ⟨pv, pl, hx, hzq, hpr⟩ := hQ.2 q (by rw [HQ1.out]; exact hlt)
            have hfs := flat_step hzq
            have hlen : (zs.take (q + 1)).flatten.length ≤ 1000 := by have := flat_le (ls := zs) (q + 1); rw [HZ.out] at this; omega
            have hl2 : (zs.take q).flatten.length + pl.length ≤ 1000 := by rw [← List.length_append, hfs]; exact hlen
            have hfin : q = k → (zs.take (q + 1)).flatten = y := fun e => by rw [List.take_of_length_le (by rw [← hQ.1, HQ1.out]; omega), HZ.out]
            obtain ⟨po, pc, rfl, j9, j10, -⟩ := id hpr
            obtain ⟨ad, rfl⟩ := rd_some (G.rd (.slice vo (k + 1) vc) _ G) (by omega)
            have HX := Lib.hid hx
            have HP := Lib.hid hpr
            have HF := Lib.hid hfs
            have HFin := Lib.hid hfin
            clear hx hzq hpr hfs hfin
            by_cases hq0 : q = 0
            · have hq1 : ((q : Int) == 0) = true := by simp <;> omega
              have hq2 : decide ((q : Int) = 0) = true := by simp <;> omega
              obtain rfl := hs0 hq0
              have HF0 : Hid ([] ++ pl = (zs.take (q + 1)).flatten) := Lib.hid (by rw [← HF.out, hq0]; rfl)
              have HQ0 := Lib.hid hq0
              clear hs0 hs1 hq0
              by_cases hk0 : q = k
              · have HK := Lib.hid hk0
                clear hk0
                have hqk := HK.out
                have hlst : ((q : Int) == (k : Int)) = true := by simp <;> omega
                have hlst2 : decide ((q : Int) = (k : Int)) = true := by simp <;> omega
                clear hqk
                have hm2 := M2.out
                have hat : (((q : Int) == (m2 : Int)) = true ∧ decide ((q : Int) = (m2 : Int)) = true) ∨ (((q : Int) == (m2 : Int)) = false ∧ decide ((q : Int) = (m2 : Int)) = false) := by
                  by_cases h : q = m2
                  · left; simp <;> omega
                  · right; simp <;> omega
                rcases hat with ⟨hat1, hat2⟩ | ⟨hat1, hat2⟩
                all_goals
                  as_aux_lemma =>
                  go_wp2_with (first
                    | ((with_reducible refine at_alloc ?_); refine wpu_new G ?_; clear G; intro w G)
                    | ((with_reducible refine at_drew ?_); refine wpu_drew G ?_; clear G; intro w G)
                    | ((with_reducible refine at_load ?_); first
                      | (refine wpu_load G rfl rfl rfl rfl ?_; go_frame)
                      | (refine wpu_loadB G rfl rfl rfl (by rfl) ?_; go_frame)
                      | (refine wpu_loadS G rfl rfl rfl (by rfl) ?_; simp only [List.drop_succ_cons, List.drop_zero, List.take_succ_cons, List.take_zero]; go_frame))
                    | ((with_reducible refine at_store ?_); first
                      | (refine wpu_store G rfl rfl rfl rfl (by first | rfl | assumption | simp [*]) rfl ?_; clear G; intro w G; go_frame)
                      | (refine wpu_storeB G rfl rfl rfl rfl (by rfl) (by rfl) (by first | rfl | assumption | simp [*]) ?_; clear G; intro w G; go_frame)
                      | (refine wpu_storeS G rfl rfl rfl rfl (by rfl) (by rfl) (by first | rfl | assumption | simp [*]) ?_; clear G; intro w G; go_frame))
                    | ((with_reducible refine at_convert ?_); refine wpu_str G rfl rfl rfl rfl ?_; go_frame)
                    | ((with_reducible refine at_slice ?_); first
                      | (refine wpu_sliceLo rfl rfl rfl rfl (by first | rfl | omega) (by omega) (by omega) ?_; go_frame)
                      | (refine wpu_sliceLH rfl rfl rfl rfl rfl (by first | rfl | omega) (by first | rfl | omega) (by omega) (by omega) ?_; go_frame))
                    | ((with_reducible refine at_load ?_); refine wpu_loadC (G.rd (.slice (some ad) (k + 1) vc) _ G) HX.out rfl rfl rfl ?_; go_frame))
                  have hc1 := can0 (f := mkF 1 stream fin true (.slice po pl.length pc)) (G.pullF (asmA a)) rfl HP.out (by omega) (by omega)
                  have hc2 := Can.whole hc1 (step0w (by omega) HQ0.out (HF0.out.trans (HFin.out HK.out)))
                  refine Calls.mono hc2 ?_
                  clear hc1 hc2
                  clear G; rintro e w ⟨v3, rfl, G⟩
                  obtain ⟨xo, xc, rfl, i9, i10⟩ := G.hdr v3
                  go_wp2_with (first
                    | ((with_reducible refine at_alloc ?_); refine wpu_new G ?_; clear G; intro w G)
                    | ((with_reducible refine at_drew ?_); refine wpu_drew G ?_; clear G; intro w G)
                    | ((with_reducible refine at_load ?_); first
                      | (refine wpu_load G rfl rfl rfl rfl ?_; go_frame)
                      | (refine wpu_loadB G rfl rfl rfl (by rfl) ?_; go_frame)
                      | (refine wpu_loadS G rfl rfl rfl (by rfl) ?_; simp only [List.drop_succ_cons, List.drop_zero, List.take_succ_cons, List.take_zero]; go_frame))
                    | ((with_reducible refine at_store ?_); first
                      | (refine wpu_store G rfl rfl rfl rfl (by first | rfl | assumption | simp [*]) rfl ?_; clear G; intro w G; go_frame)
                      | (refine wpu_storeB G rfl rfl rfl rfl (by rfl) (by rfl) (by first | rfl | assumption | simp [*]) ?_; clear G; intro w G; go_frame)
                      | (refine wpu_storeS G rfl rfl rfl rfl (by rfl) (by rfl) (by first | rfl | assumption | simp [*]) ?_; clear G; intro w G; go_frame))
                    | ((with_reducible refine at_convert ?_); refine wpu_str G rfl rfl rfl rfl ?_; go_frame)
                    | ((with_reducible refine at_slice ?_); first
                      | (refine wpu_sliceLo rfl rfl rfl rfl (by first | rfl | omega) (by omega) (by omega) ?_; go_frame)
                      | (refine wpu_sliceLH rfl rfl rfl rfl rfl (by first | rfl | omega) (by first | rfl | omega) (by omega) (by omega) ?_; go_frame))
                    | ((with_reducible refine at_convert ?_); refine wpu_strR (HY.out.old G) rfl rfl rfl ?_; go_frame))
                  have hc1 := can0 (f := mkF 1 stream fin true (.slice po pl.length pc)) (G.pullF (asmA c)) rfl HP.out (by omega) (by omega)
                  have hc2 := Can.whole hc1 (step0w (by omega) HQ0.out (HF0.out.trans (HFin.out HK.out)))
                  refine Calls.mono hc2 ?_
                  clear hc1 hc2
                  clear G; rintro e w ⟨v3, rfl, G⟩
                  go_wp2_with (first
                    | ((with_reducible refine at_alloc ?_); refine wpu_new G ?_; clear G; intro w G)
                    | ((with_reducible refine at_drew ?_); refine wpu_drew G ?_; clear G; intro w G)
                    | ((with_reducible refine at_load ?_); first
                      | (refine wpu_load G rfl rfl rfl rfl ?_; go_frame)
                      | (refine wpu_loadB G rfl rfl rfl (by rfl) ?_; go_frame)
                      | (refine wpu_loadS G rfl rfl rfl (by rfl) ?_; simp only [List.drop_succ_cons, List.drop_zero, List.take_succ_cons, List.take_zero]; go_frame))
                    | ((with_reducible refine at_store ?_); first
                      | (refine wpu_store G rfl rfl rfl rfl (by first | rfl | assumption | simp [*]) rfl ?_; clear G; intro w G; go_frame)
                      | (refine wpu_storeB G rfl rfl rfl rfl (by rfl) (by rfl) (by first | rfl | assumption | simp [*]) ?_; clear G; intro w G; go_frame)
                      | (refine wpu_storeS G rfl rfl rfl rfl (by rfl) (by rfl) (by first | rfl | assumption | simp [*]) ?_; clear G; intro w G; go_frame))
                    | ((with_reducible refine at_convert ?_); refine wpu_str G rfl rfl rfl rfl ?_; go_frame)
                    | ((with_reducible refine at_slice ?_); first
                      | (refine wpu_sliceLo rfl rfl rfl rfl (by first | rfl | omega) (by omega) (by omega) ?_; go_frame)
                      | (refine wpu_sliceLH rfl rfl rfl rfl rfl (by first | rfl | omega) (by first | rfl | omega) (by omega) (by omega) ?_; go_frame))
                    | fail)
                  go_roundw
                  case rel => exact ⟨q + 1, ⟨1000, none, q, none⟩, by go_num, by omega, fun h => by omega, fun _ h => by have := HK.out; omega, G.give⟩
                  case measure => simp [intOf] <;> omega
              · skip
                have hlst : ((q : Int) == (k : Int)) = false := by simp <;> omega
                have hlst2 : decide ((q : Int) = (k : Int)) = false := by simp <;> omega
                by_cases hat : q = m2
                · as_aux_lemma =>
                  have hat1 : ((q : Int) == (m2 : Int)) = true := by simp <;> omega
                  have hat2 : decide ((q : Int) = (m2 : Int)) = true := by simp <;> omega
                  clear hat
                  have hm2 := M2.out
                  go_wp2_with (first
                    | ((with_reducible refine at_alloc ?_); refine wpu_new G ?_; clear G; intro w G)
                    | ((with_reducible refine at_drew ?_); refine wpu_drew G ?_; clear G; intro w G)
                    | ((with_reducible refine at_load ?_); first
                      | (refine wpu_load G rfl rfl rfl rfl ?_; go_frame)
                      | (refine wpu_loadB G rfl rfl rfl (by rfl) ?_; go_frame)
                      | (refine wpu_loadS G rfl rfl rfl (by rfl) ?_; simp only [List.drop_succ_cons, List.drop_zero, List.take_succ_cons, List.take_zero]; go_frame))
                    | ((with_reducible refine at_store ?_); first
                      | (refine wpu_store G rfl rfl rfl rfl (by first | rfl | assumption | simp [*]) rfl ?_; clear G; intro w G; go_frame)
                      | (refine wpu_storeB G rfl rfl rfl rfl (by rfl) (by rfl) (by first | rfl | assumption | simp [*]) ?_; clear G; intro w G; go_frame)
                      | (refine wpu_storeS G rfl rfl rfl rfl (by rfl) (by rfl) (by first | rfl | assumption | simp [*]) ?_; clear G; intro w G; go_frame))
                    | ((with_reducible refine at_convert ?_); refine wpu_str G rfl rfl rfl rfl ?_; go_frame)
                    | ((with_reducible refine at_slice ?_); first
                      | (refine wpu_sliceLo rfl rfl rfl rfl (by first | rfl | omega) (by omega) (by omega) ?_; go_frame)
                      | (refine wpu_sliceLH rfl rfl rfl rfl rfl (by first | rfl | omega) (by first | rfl | omega) (by omega) (by omega) ?_; go_frame))
                    | ((with_reducible refine at_load ?_); refine wpu_loadC (G.rd (.slice (some ad) (k + 1) vc) _ G) HX.out rfl rfl rfl ?_; go_frame))
                  have hc1 := can0 (f := mkF 1 stream fin false (.slice po pl.length pc)) (G.pullF (asmA a)) rfl HP.out (by omega) (by omega)
                  have hc2 := Can.more hc1 (step0 (by omega) HQ0.out HF0.out)
                  refine Calls.mono hc2 ?_
                  clear hc1 hc2
                  clear G; rintro e w ⟨rfl, G⟩
                  go_wp2_with (first
                    | ((with_reducible refine at_alloc ?_); refine wpu_new G ?_; clear G; intro w G)
                    | ((with_reducible refine at_drew ?_); refine wpu_drew G ?_; clear G; intro w G)
                    | ((with_reducible refine at_load ?_); first
                      | (refine wpu_load G rfl rfl rfl rfl ?_; go_frame)
                      | (refine wpu_loadB G rfl rfl rfl (by rfl) ?_; go_frame)
                      | (refine wpu_loadS G rfl rfl rfl (by rfl) ?_; simp only [List.drop_succ_cons, List.drop_zero, List.take_succ_cons, List.take_zero]; go_frame))
                    | ((with_reducible refine at_store ?_); first
                      | (refine wpu_store G rfl rfl rfl rfl (by first | rfl | assumption | simp [*]) rfl ?_; clear G; intro w G; go_frame)
                      | (refine wpu_storeB G rfl rfl rfl rfl (by rfl) (by rfl) (by first | rfl | assumption | simp [*]) ?_; clear G; intro w G; go_frame)
                      | (refine wpu_storeS G rfl rfl rfl rfl (by rfl) (by rfl) (by first | rfl | assumption | simp [*]) ?_; clear G; intro w G; go_frame))
                    | ((with_reducible refine at_convert ?_); refine wpu_str G rfl rfl rfl rfl ?_; go_frame)
                    | ((with_reducible refine at_slice ?_); first
                      | (refine wpu_sliceLo rfl rfl rfl rfl (by first | rfl | omega) (by omega) (by omega) ?_; go_frame)
                      | (refine wpu_sliceLH rfl rfl rfl rfl rfl (by first | rfl | omega) (by first | rfl | omega) (by omega) (by omega) ?_; go_frame))
                    | fail)
                  have hc1 := can0 (f := mkF 1 stream fin false (.slice po pl.length pc)) (G.pullF (asmA c)) rfl HP.out (by omega) (by omega)
                  have hc2 := Can.more hc1 (step0 (by omega) HQ0.out HF0.out)
                  refine Calls.mono hc2 ?_
                  clear hc1 hc2
                  clear G; rintro e w ⟨rfl, G⟩
                  go_wp2_with (first
                    | ((with_reducible refine at_alloc ?_); refine wpu_new G ?_; clear G; intro w G)
                    | ((with_reducible refine at_drew ?_); refine wpu_drew G ?_; clear G; intro w G)
                    | ((with_reducible refine at_load ?_); first
                      | (refine wpu_load G rfl rfl rfl rfl ?_; go_frame)
                      | (refine wpu_loadB G rfl rfl rfl (by rfl) ?_; go_frame)
                      | (refine wpu_loadS G rfl rfl rfl (by rfl) ?_; simp only [List.drop_succ_cons, List.drop_zero, List.take_succ_cons, List.take_zero]; go_frame))
                    | ((with_reducible refine at_store ?_); first
                      | (refine wpu_store G rfl rfl rfl rfl (by first | rfl | assumption | simp [*]) rfl ?_; clear G; intro w G; go_frame)
                      | (refine wpu_storeB G rfl rfl rfl rfl (by rfl) (by rfl) (by first | rfl | assumption | simp [*]) ?_; clear G; intro w G; go_frame)
                      | (refine wpu_storeS G rfl rfl rfl rfl (by rfl) (by rfl) (by first | rfl | assumption | simp [*]) ?_; clear G; intro w G; go_frame))
                    | ((with_reducible refine at_convert ?_); refine wpu_str G rfl rfl rfl rfl ?_; go_frame)
                    | ((with_reducible refine at_slice ?_); first
                      | (refine wpu_sliceLo rfl rfl rfl rfl (by first | rfl | omega) (by omega) (by omega) ?_; go_frame)
                      | (refine wpu_sliceLH rfl rfl rfl rfl rfl (by first | rfl | omega) (by first | rfl | omega) (by omega) (by omega) ?_; go_frame))
                    | fail)
                  have hc1 := canq (f := mkFr 0 stream false (.slice none 0 0)) (l := []) (G.pullF (asmA c)) rfl (rd_nil _ 1) (Nat.zero_le _) (by omega) (by omega)
                  have hc2 := Can.fault (c := 1) hc1 stepD
                  refine Calls.mono hc2 ?_
                  clear hc1 hc2
                  clear G; rintro e w ⟨rfl, G⟩
                  go_wp2_with (first
                    | ((with_reducible refine at_alloc ?_); refine wpu_new G ?_; clear G; intro w G)
                    | ((with_reducible refine at_drew ?_); refine wpu_drew G ?_; clear G; intro w G)
                    | ((with_reducible refine at_load ?_); first
                      | (refine wpu_load G rfl rfl rfl rfl ?_; go_frame)
                      | (refine wpu_loadB G rfl rfl rfl (by rfl) ?_; go_frame)
                      | (refine wpu_loadS G rfl rfl rfl (by rfl) ?_; simp only [List.drop_succ_cons, List.drop_zero, List.take_succ_cons, List.take_zero]; go_frame))
                    | ((with_reducible refine at_store ?_); first
                      | (refine wpu_store G rfl rfl rfl rfl (by first | rfl | assumption | simp [*]) rfl ?_; clear G; intro w G; go_frame)
                      | (refine wpu_storeB G rfl rfl rfl rfl (by rfl) (by rfl) (by first | rfl | assumption | simp [*]) ?_; clear G; intro w G; go_frame)
                      | (refine wpu_storeS G rfl rfl rfl rfl (by rfl) (by rfl) (by first | rfl | assumption | simp [*]) ?_; clear G; intro w G; go_frame))
                    | ((with_reducible refine at_convert ?_); refine wpu_str G rfl rfl rfl rfl ?_; go_frame)
                    | ((with_reducible refine at_slice ?_); first
                      | (refine wpu_sliceLo rfl rfl rfl rfl (by first | rfl | omega) (by omega) (by omega) ?_; go_frame)
                      | (refine wpu_sliceLH rfl rfl rfl rfl rfl (by first | rfl | omega) (by first | rfl | omega) (by omega) (by omega) ?_; go_frame))
                    | fail)
                  have hc1 := canb (f := mkFr 6 0 false (.slice none 0 0)) (l := []) (G.pullF (asmA c)) rfl (rd_nil _ 1) (Nat.zero_le _) (by omega)
                  have hc2 := Can.fault (c := 1) hc1 stepB
                  refine Calls.mono hc2 ?_
                  clear hc1 hc2
                  clear G; rintro e w ⟨rfl, G⟩
                  go_wp2_with (first
                    | ((with_reducible refine at_alloc ?_); refine wpu_new G ?_; clear G; intro w G)
                    | ((with_reducible refine at_drew ?_); refine wpu_drew G ?_; clear G; intro w G)
                    | ((with_reducible refine at_load ?_); first
                      | (refine wpu_load G rfl rfl rfl rfl ?_; go_frame)
                      | (refine wpu_loadB G rfl rfl rfl (by rfl) ?_; go_frame)
                      | (refine wpu_loadS G rfl rfl rfl (by rfl) ?_; simp only [List.drop_succ_cons, List.drop_zero, List.take_succ_cons, List.take_zero]; go_frame))
                    | ((with_reducible refine at_store ?_); first
                      | (refine wpu_store G rfl rfl rfl rfl (by first | rfl | assumption | simp [*]) rfl ?_; clear G; intro w G; go_frame)
                      | (refine wpu_storeB G rfl rfl rfl rfl (by rfl) (by rfl) (by first | rfl | assumption | simp [*]) ?_; clear G; intro w G; go_frame)
                      | (refine wpu_storeS G rfl rfl rfl rfl (by rfl) (by rfl) (by first | rfl | assumption | simp [*]) ?_; clear G; intro w G; go_frame))
                    | ((with_reducible refine at_convert ?_); refine wpu_str G rfl rfl rfl rfl ?_; go_frame)
                    | ((with_reducible refine at_slice ?_); first
                      | (refine wpu_sliceLo rfl rfl rfl rfl (by first | rfl | omega) (by omega) (by omega) ?_; go_frame)
                      | (refine wpu_sliceLH rfl rfl rfl rfl rfl (by first | rfl | omega) (by first | rfl | omega) (by omega) (by omega) ?_; go_frame))
                    | fail)
                  go_ret
                  exact ⟨rfl, G.below⟩
                · as_aux_lemma =>
                  have hat1 : ((q : Int) == (m2 : Int)) = false := by simp <;> omega
                  have hat2 : decide ((q : Int) = (m2 : Int)) = false := by simp <;> omega
                  clear hat
                  have hm2 := M2.out
                  go_wp2_with (first
                    | ((with_reducible refine at_alloc ?_); refine wpu_new G ?_; clear G; intro w G)
                    | ((with_reducible refine at_drew ?_); refine wpu_drew G ?_; clear G; intro w G)
                    | ((with_reducible refine at_load ?_); first
                      | (refine wpu_load G rfl rfl rfl rfl ?_; go_frame)
                      | (refine wpu_loadB G rfl rfl rfl (by rfl) ?_; go_frame)
                      | (refine wpu_loadS G rfl rfl rfl (by rfl) ?_; simp only [List.drop_succ_cons, List.drop_zero, List.take_succ_cons, List.take_zero]; go_frame))
                    | ((with_reducible refine at_store ?_); first
                      | (refine wpu_store G rfl rfl rfl rfl (by first | rfl | assumption | simp [*]) rfl ?_; clear G; intro w G; go_frame)
                      | (refine wpu_storeB G rfl rfl rfl rfl (by rfl) (by rfl) (by first | rfl | assumption | simp [*]) ?_; clear G; intro w G; go_frame)
                      | (refine wpu_storeS G rfl rfl rfl rfl (by rfl) (by rfl) (by first | rfl | assumption | simp [*]) ?_; clear G; intro w G; go_frame))
                    | ((with_reducible refine at_convert ?_); refine wpu_str G rfl rfl rfl rfl ?_; go_frame)
                    | ((with_reducible refine at_slice ?_); first
                      | (refine wpu_sliceLo rfl rfl rfl rfl (by first | rfl | omega) (by omega) (by omega) ?_; go_frame)
                      | (refine wpu_sliceLH rfl rfl rfl rfl rfl (by first | rfl | omega) (by first | rfl | omega) (by omega) (by omega) ?_; go_frame))
                    | ((with_reducible refine at_load ?_); refine wpu_loadC (G.rd (.slice (some ad) (k + 1) vc) _ G) HX.out rfl rfl rfl ?_; go_frame))
                  have hc1 := can0 (f := mkF 1 stream fin false (.slice po pl.length pc)) (G.pullF (asmA a)) rfl HP.out (by omega) (by omega)
                  have hc2 := Can.more hc1 (step0 (by omega) HQ0.out HF0.out)
                  refine Calls.mono hc2 ?_
                  clear hc1 hc2
                  clear G; rintro e w ⟨rfl, G⟩
                  go_wp2_with (first
                    | ((with_reducible refine at_alloc ?_); refine wpu_new G ?_; clear G; intro w G)
                    | ((with_reducible refine at_drew ?_); refine wpu_drew G ?_; clear G; intro w G)
                    | ((with_reducible refine at_load ?_); first
                      | (refine wpu_load G rfl rfl rfl rfl ?_; go_frame)
                      | (refine wpu_loadB G rfl rfl rfl (by rfl) ?_; go_frame)
                      | (refine wpu_loadS G rfl rfl rfl (by rfl) ?_; simp only [List.drop_succ_cons, List.drop_zero, List.take_succ_cons, List.take_zero]; go_frame))
                    | ((with_reducible refine at_store ?_); first
                      | (refine wpu_store G rfl rfl rfl rfl (by first | rfl | assumption | simp [*]) rfl ?_; clear G; intro w G; go_frame)
                      | (refine wpu_storeB G rfl rfl rfl rfl (by rfl) (by rfl) (by first | rfl | assumption | simp [*]) ?_; clear G; intro w G; go_frame)
                      | (refine wpu_storeS G rfl rfl rfl rfl (by rfl) (by rfl) (by first | rfl | assumption | simp [*]) ?_; clear G; intro w G; go_frame))
                    | ((with_reducible refine at_convert ?_); refine wpu_str G rfl rfl rfl rfl ?_; go_frame)
                    | ((with_reducible refine at_slice ?_); first
                      | (refine wpu_sliceLo rfl rfl rfl rfl (by first | rfl | omega) (by omega) (by omega) ?_; go_frame)
                      | (refine wpu_sliceLH rfl rfl rfl rfl rfl (by first | rfl | omega) (by first | rfl | omega) (by omega) (by omega) ?_; go_frame))
                    | fail)
                  have hc1 := can0 (f := mkF 1 stream fin false (.slice po pl.length pc)) (G.pullF (asmA c)) rfl HP.out (by omega) (by omega)
                  have hc2 := Can.more hc1 (step0 (by omega) HQ0.out HF0.out)
                  refine Calls.mono hc2 ?_
                  clear hc1 hc2
                  clear G; rintro e w ⟨rfl, G⟩
                  go_wp2_with (first
                    | ((with_reducible refine at_alloc ?_); refine wpu_new G ?_; clear G; intro w G)
                    | ((with_reducible refine at_drew ?_); refine wpu_drew G ?_; clear G; intro w G)
                    | ((with_reducible refine at_load ?_); first
                      | (refine wpu_load G rfl rfl rfl rfl ?_; go_frame)
                      | (refine wpu_loadB G rfl rfl rfl (by rfl) ?_; go_frame)
                      | (refine wpu_loadS G rfl rfl rfl (by rfl) ?_; simp only [List.drop_succ_cons, List.drop_zero, List.take_succ_cons, List.take_zero]; go_frame))
                    | ((with_reducible refine at_store ?_); first
                      | (refine wpu_store G rfl rfl rfl rfl (by first | rfl | assumption | simp [*]) rfl ?_; clear G; intro w G; go_frame)
                      | (refine wpu_storeB G rfl rfl rfl rfl (by rfl) (by rfl) (by first | rfl | assumption | simp [*]) ?_; clear G; intro w G; go_frame)
                      | (refine wpu_storeS G rfl rfl rfl rfl (by rfl) (by rfl) (by first | rfl | assumption | simp [*]) ?_; clear G; intro w G; go_frame))
                    | ((with_reducible refine at_convert ?_); refine wpu_str G rfl rfl rfl rfl ?_; go_frame)
                    | ((with_reducible refine at_slice ?_); first
                      | (refine wpu_sliceLo rfl rfl rfl rfl (by first | rfl | omega) (by omega) (by omega) ?_; go_frame)
                      | (refine wpu_sliceLH rfl rfl rfl rfl rfl (by first | rfl | omega) (by first | rfl | omega) (by omega) (by omega) ?_; go_frame))
                    | fail)
                  go_roundw
                  case rel => exact ⟨q + 1, ⟨1000, some (mkF 1 stream fin false (.slice po pl.length pc), (zs.take (q + 1)).flatten), q + 1 - 1, none⟩, by go_num, by omega, fun h => by omega, fun _ _ => ⟨_, rfl⟩, G.give⟩
                  case measure => simp [intOf] <;> omega
            · have hq1 : ((q : Int) == 0) = false := by simp <;> omega
              have hq2 : decide ((q : Int) = 0) = false := by simp <;> omega
              have hq3 : 0 < q := by omega
              obtain ⟨v0, rfl⟩ := hs1 hq3 hlt
              clear hs0 hs1 hq0
              by_cases hk0 : q = k
              · have HK := Lib.hid hk0
                clear hk0
                have hqk := HK.out
                have hlst : ((q : Int) == (k : Int)) = true := by simp <;> omega
                have hlst2 : decide ((q : Int) = (k : Int)) = true := by simp <;> omega
                clear hqk
                have hm2 := M2.out
                have hat : (((q : Int) == (m2 : Int)) = true ∧ decide ((q : Int) = (m2 : Int)) = true) ∨ (((q : Int) == (m2 : Int)) = false ∧ decide ((q : Int) = (m2 : Int)) = false) := by
                  by_cases h : q = m2
                  · left; simp <;> omega
                  · right; simp <;> omega
                rcases hat with ⟨hat1, hat2⟩ | ⟨hat1, hat2⟩
                all_goals
                  as_aux_lemma =>
                  go_wp2_with (first
                    | ((with_reducible refine at_alloc ?_); refine wpu_new G ?_; clear G; intro w G)
                    | ((with_reducible refine at_drew ?_); refine wpu_drew G ?_; clear G; intro w G)
                    | ((with_reducible refine at_load ?_); first
                      | (refine wpu_load G rfl rfl rfl rfl ?_; go_frame)
                      | (refine wpu_loadB G rfl rfl rfl (by rfl) ?_; go_frame)
                      | (refine wpu_loadS G rfl rfl rfl (by rfl) ?_; simp only [List.drop_succ_cons, List.drop_zero, List.take_succ_cons, List.take_zero]; go_frame))
                    | ((with_reducible refine at_store ?_); first
                      | (refine wpu_store G rfl rfl rfl rfl (by first | rfl | assumption | simp [*]) rfl ?_; clear G; intro w G; go_frame)
                      | (refine wpu_storeB G rfl rfl rfl rfl (by rfl) (by rfl) (by first | rfl | assumption | simp [*]) ?_; clear G; intro w G; go_frame)
                      | (refine wpu_storeS G rfl rfl rfl rfl (by rfl) (by rfl) (by first | rfl | assumption | simp [*]) ?_; clear G; intro w G; go_frame))
                    | ((with_reducible refine at_convert ?_); refine wpu_str G rfl rfl rfl rfl ?_; go_frame)
                    | ((with_reducible refine at_slice ?_); first
                      | (refine wpu_sliceLo rfl rfl rfl rfl (by first | rfl | omega) (by omega) (by omega) ?_; go_frame)
                      | (refine wpu_sliceLH rfl rfl rfl rfl rfl (by first | rfl | omega) (by first | rfl | omega) (by omega) (by omega) ?_; go_frame))
                    | ((with_reducible refine at_load ?_); refine wpu_loadC (G.rd (.slice (some ad) (k + 1) vc) _ G) HX.out rfl rfl rfl ?_; go_frame))
                  have hc1 := canq (f := mkF 9 stream false true (.slice po pl.length pc)) (G.pullF (asmA a)) rfl HP.out (by omega) (by omega) (by omega)
                  have hc2 := Can.whole hc1 (stepqw hl2 hq3 (by omega) (HF.out.trans (HFin.out HK.out)))
                  refine Calls.mono hc2 ?_
                  clear hc1 hc2
                  clear G; rintro e w ⟨v3, rfl, G⟩
                  obtain ⟨xo, xc, rfl, i9, i10⟩ := G.hdr v3
                  go_wp2_with (first
                    | ((with_reducible refine at_alloc ?_); refine wpu_new G ?_; clear G; intro w G)
                    | ((with_reducible refine at_drew ?_); refine wpu_drew G ?_; clear G; intro w G)
                    | ((with_reducible refine at_load ?_); first
                      | (refine wpu_load G rfl rfl rfl rfl ?_; go_frame)
                      | (refine wpu_loadB G rfl rfl rfl (by rfl) ?_; go_frame)
                      | (refine wpu_loadS G rfl rfl rfl (by rfl) ?_; simp only [List.drop_succ_cons, List.drop_zero, List.take_succ_cons, List.take_zero]; go_frame))
                    | ((with_reducible refine at_store ?_); first
                      | (refine wpu_store G rfl rfl rfl rfl (by first | rfl | assumption | simp [*]) rfl ?_; clear G; intro w G; go_frame)
                      | (refine wpu_storeB G rfl rfl rfl rfl (by rfl) (by rfl) (by first | rfl | assumption | simp [*]) ?_; clear G; intro w G; go_frame)
                      | (refine wpu_storeS G rfl rfl rfl rfl (by rfl) (by rfl) (by first | rfl | assumption | simp [*]) ?_; clear G; intro w G; go_frame))
                    | ((with_reducible refine at_convert ?_); refine wpu_str G rfl rfl rfl rfl ?_; go_frame)
                    | ((with_reducible refine at_slice ?_); first
                      | (refine wpu_sliceLo rfl rfl rfl rfl (by first | rfl | omega) (by omega) (by omega) ?_; go_frame)
                      | (refine wpu_sliceLH rfl rfl rfl rfl rfl (by first | rfl | omega) (by first | rfl | omega) (by omega) (by omega) ?_; go_frame))
                    | ((with_reducible refine at_convert ?_); refine wpu_strR (HY.out.old G) rfl rfl rfl ?_; go_frame))
                  have hc1 := canq (f := mkF 9 stream false true (.slice po pl.length pc)) (G.pullF (asmA c)) rfl HP.out (by omega) (by omega) (by omega)
                  have hc2 := Can.whole hc1 (stepqw hl2 hq3 (by omega) (HF.out.trans (HFin.out HK.out)))
                  refine Calls.mono hc2 ?_
                  clear hc1 hc2
                  clear G; rintro e w ⟨v3, rfl, G⟩
                  go_wp2_with (first
                    | ((with_reducible refine at_alloc ?_); refine wpu_new G ?_; clear G; intro w G)
                    | ((with_reducible refine at_drew ?_); refine wpu_drew G ?_; clear G; intro w G)
                    | ((with_reducible refine at_load ?_); first
                      | (refine wpu_load G rfl rfl rfl rfl ?_; go_frame)
                      | (refine wpu_loadB G rfl rfl rfl (by rfl) ?_; go_frame)
                      | (refine wpu_loadS G rfl rfl rfl (by rfl) ?_; simp only [List.drop_succ_cons, List.drop_zero, List.take_succ_cons, List.take_zero]; go_frame))
                    | ((with_reducible refine at_store ?_); first
                      | (refine wpu_store G rfl rfl rfl rfl (by first | rfl | assumption | simp [*]) rfl ?_; clear G; intro w G; go_frame)
                      | (refine wpu_storeB G rfl rfl rfl rfl (by rfl) (by rfl) (by first | rfl | assumption | simp [*]) ?_; clear G; intro w G; go_frame)
                      | (refine wpu_storeS G rfl rfl rfl rfl (by rfl) (by rfl) (by first | rfl | assumption | simp [*]) ?_; clear G; intro w G; go_frame))
                    | ((with_reducible refine at_convert ?_); refine wpu_str G rfl rfl rfl rfl ?_; go_frame)
                    | ((with_reducible refine at_slice ?_); first
                      | (refine wpu_sliceLo rfl rfl rfl rfl (by first | rfl | omega) (by omega) (by omega) ?_; go_frame)
                      | (refine wpu_sliceLH rfl rfl rfl rfl rfl (by first | rfl | omega) (by first | rfl | omega) (by omega) (by omega) ?_; go_frame))
                    | fail)
                  go_roundw
                  case rel => exact ⟨q + 1, ⟨1000, none, q, none⟩, by go_num, by omega, fun h => by omega, fun _ h => by have := HK.out; omega, G.give⟩
                  case measure => simp [intOf] <;> omega
              · skip
                have hlst : ((q : Int) == (k : Int)) = false := by simp <;> omega
                have hlst2 : decide ((q : Int) = (k : Int)) = false := by simp <;> omega
                by_cases hat : q = m2
                · as_aux_lemma =>
                  have hat1 : ((q : Int) == (m2 : Int)) = true := by simp <;> omega
                  have hat2 : decide ((q : Int) = (m2 : Int)) = true := by simp <;> omega
                  clear hat
                  have hm2 := M2.out
                  go_wp2_with (first
                    | ((with_reducible refine at_alloc ?_); refine wpu_new G ?_; clear G; intro w G)
                    | ((with_reducible refine at_drew ?_); refine wpu_drew G ?_; clear G; intro w G)
                    | ((with_reducible refine at_load ?_); first
                      | (refine wpu_load G rfl rfl rfl rfl ?_; go_frame)
                      | (refine wpu_loadB G rfl rfl rfl (by rfl) ?_; go_frame)
                      | (refine wpu_loadS G rfl rfl rfl (by rfl) ?_; simp only [List.drop_succ_cons, List.drop_zero, List.take_succ_cons, List.take_zero]; go_frame))
                    | ((with_reducible refine at_store ?_); first
                      | (refine wpu_store G rfl rfl rfl rfl (by first | rfl | assumption | simp [*]) rfl ?_; clear G; intro w G; go_frame)
                      | (refine wpu_storeB G rfl rfl rfl rfl (by rfl) (by rfl) (by first | rfl | assumption | simp [*]) ?_; clear G; intro w G; go_frame)
                      | (refine wpu_storeS G rfl rfl rfl rfl (by rfl) (by rfl) (by first | rfl | assumption | simp [*]) ?_; clear G; intro w G; go_frame))
                    | ((with_reducible refine at_convert ?_); refine wpu_str G rfl rfl rfl rfl ?_; go_frame)
                    | ((with_reducible refine at_slice ?_); first
                      | (refine wpu_sliceLo rfl rfl rfl rfl (by first | rfl | omega) (by omega) (by omega) ?_; go_frame)
                      | (refine wpu_sliceLH rfl rfl rfl rfl rfl (by first | rfl | omega) (by first | rfl | omega) (by omega) (by omega) ?_; go_frame))
                    | ((with_reducible refine at_load ?_); refine wpu_loadC (G.rd (.slice (some ad) (k + 1) vc) _ G) HX.out rfl rfl rfl ?_; go_frame))
                  have hc1 := canq (f := mkF 9 stream false false (.slice po pl.length pc)) (G.pullF (asmA a)) rfl HP.out (by omega) (by omega) (by omega)
                  have hc2 := Can.more hc1 (stepq hl2 hq3 (by omega) HF.out)
                  refine Calls.mono hc2 ?_
                  clear hc1 hc2
                  clear G; rintro e w ⟨rfl, G⟩
                  go_wp2_with (first
                    | ((with_reducible refine at_alloc ?_); refine wpu_new G ?_; clear G; intro w G)
                    | ((with_reducible refine at_drew ?_); refine wpu_drew G ?_; clear G; intro w G)
                    | ((with_reducible refine at_load ?_); first
                      | (refine wpu_load G rfl rfl rfl rfl ?_; go_frame)
                      | (refine wpu_loadB G rfl rfl rfl (by rfl) ?_; go_frame)
                      | (refine wpu_loadS G rfl rfl rfl (by rfl) ?_; simp only [List.drop_succ_cons, List.drop_zero, List.take_succ_cons, List.take_zero]; go_frame))
                    | ((with_reducible refine at_store ?_); first
                      | (refine wpu_store G rfl rfl rfl rfl (by first | rfl | assumption | simp [*]) rfl ?_; clear G; intro w G; go_frame)
                      | (refine wpu_storeB G rfl rfl rfl rfl (by rfl) (by rfl) (by first | rfl | assumption | simp [*]) ?_; clear G; intro w G; go_frame)
                      | (refine wpu_storeS G rfl rfl rfl rfl (by rfl) (by rfl) (by first | rfl | assumption | simp [*]) ?_; clear G; intro w G; go_frame))
                    | ((with_reducible refine at_convert ?_); refine wpu_str G rfl rfl rfl rfl ?_; go_frame)
                    | ((with_reducible refine at_slice ?_); first
                      | (refine wpu_sliceLo rfl rfl rfl rfl (by first | rfl | omega) (by omega) (by omega) ?_; go_frame)
                      | (refine wpu_sliceLH rfl rfl rfl rfl rfl (by first | rfl | omega) (by first | rfl | omega) (by omega) (by omega) ?_; go_frame))
                    | fail)
                  have hc1 := canq (f := mkF 9 stream false false (.slice po pl.length pc)) (G.pullF (asmA c)) rfl HP.out (by omega) (by omega) (by omega)
                  have hc2 := Can.more hc1 (stepq hl2 hq3 (by omega) HF.out)
                  refine Calls.mono hc2 ?_
                  clear hc1 hc2
                  clear G; rintro e w ⟨rfl, G⟩
                  go_wp2_with (first
                    | ((with_reducible refine at_alloc ?_); refine wpu_new G ?_; clear G; intro w G)
                    | ((with_reducible refine at_drew ?_); refine wpu_drew G ?_; clear G; intro w G)
                    | ((with_reducible refine at_load ?_); first
                      | (refine wpu_load G rfl rfl rfl rfl ?_; go_frame)
                      | (refine wpu_loadB G rfl rfl rfl (by rfl) ?_; go_frame)
                      | (refine wpu_loadS G rfl rfl rfl (by rfl) ?_; simp only [List.drop_succ_cons, List.drop_zero, List.take_succ_cons, List.take_zero]; go_frame))
                    | ((with_reducible refine at_store ?_); first
                      | (refine wpu_store G rfl rfl rfl rfl (by first | rfl | assumption | simp [*]) rfl ?_; clear G; intro w G; go_frame)
                      | (refine wpu_storeB G rfl rfl rfl rfl (by rfl) (by rfl) (by first | rfl | assumption | simp [*]) ?_; clear G; intro w G; go_frame)
                      | (refine wpu_storeS G rfl rfl rfl rfl (by rfl) (by rfl) (by first | rfl | assumption | simp [*]) ?_; clear G; intro w G; go_frame))
                    | ((with_reducible refine at_convert ?_); refine wpu_str G rfl rfl rfl rfl ?_; go_frame)
                    | ((with_reducible refine at_slice ?_); first
                      | (refine wpu_sliceLo rfl rfl rfl rfl (by first | rfl | omega) (by omega) (by omega) ?_; go_frame)
                      | (refine wpu_sliceLH rfl rfl rfl rfl rfl (by first | rfl | omega) (by first | rfl | omega) (by omega) (by omega) ?_; go_frame))
                    | fail)
                  have hc1 := canq (f := mkFr 0 stream false (.slice none 0 0)) (l := []) (G.pullF (asmA c)) rfl (rd_nil _ 1) (Nat.zero_le _) (by omega) (by omega)
                  have hc2 := Can.fault (c := 1) hc1 stepD
                  refine Calls.mono hc2 ?_
                  clear hc1 hc2
                  clear G; rintro e w ⟨rfl, G⟩
                  go_wp2_with (first
                    | ((with_reducible refine at_alloc ?_); refine wpu_new G ?_; clear G; intro w G)
                    | ((with_reducible refine at_drew ?_); refine wpu_drew G ?_; clear G; intro w G)
                    | ((with_reducible refine at_load ?_); first
                      | (refine wpu_load G rfl rfl rfl rfl ?_; go_frame)
                      | (refine wpu_loadB G rfl rfl rfl (by rfl) ?_; go_frame)
                      | (refine wpu_loadS G rfl rfl rfl (by rfl) ?_; simp only [List.drop_succ_cons, List.drop_zero, List.take_succ_cons, List.take_zero]; go_frame))
                    | ((with_reducible refine at_store ?_); first
                      | (refine wpu_store G rfl rfl rfl rfl (by first | rfl | assumption | simp [*]) rfl ?_; clear G; intro w G; go_frame)
                      | (refine wpu_storeB G rfl rfl rfl rfl (by rfl) (by rfl) (by first | rfl | assumption | simp [*]) ?_; clear G; intro w G; go_frame)
                      | (refine wpu_storeS G rfl rfl rfl rfl (by rfl) (by rfl) (by first | rfl | assumption | simp [*]) ?_; clear G; intro w G; go_frame))
                    | ((with_reducible refine at_convert ?_); refine wpu_str G rfl rfl rfl rfl ?_; go_frame)
                    | ((with_reducible refine at_slice ?_); first
                      | (refine wpu_sliceLo rfl rfl rfl rfl (by first | rfl | omega) (by omega) (by omega) ?_; go_frame)
                      | (refine wpu_sliceLH rfl rfl rfl rfl rfl (by first | rfl | omega) (by first | rfl | omega) (by omega) (by omega) ?_; go_frame))
                    | fail)
                  have hc1 := canb (f := mkFr 6 0 false (.slice none 0 0)) (l := []) (G.pullF (asmA c)) rfl (rd_nil _ 1) (Nat.zero_le _) (by omega)
                  have hc2 := Can.fault (c := 1) hc1 stepB
                  refine Calls.mono hc2 ?_
                  clear hc1 hc2
                  clear G; rintro e w ⟨rfl, G⟩
                  go_wp2_with (first
                    | ((with_reducible refine at_alloc ?_); refine wpu_new G ?_; clear G; intro w G)
                    | ((with_reducible refine at_drew ?_); refine wpu_drew G ?_; clear G; intro w G)
                    | ((with_reducible refine at_load ?_); first
                      | (refine wpu_load G rfl rfl rfl rfl ?_; go_frame)
                      | (refine wpu_loadB G rfl rfl rfl (by rfl) ?_; go_frame)
                      | (refine wpu_loadS G rfl rfl rfl (by rfl) ?_; simp only [List.drop_succ_cons, List.drop_zero, List.take_succ_cons, List.take_zero]; go_frame))
                    | ((with_reducible refine at_store ?_); first
                      | (refine wpu_store G rfl rfl rfl rfl (by first | rfl | assumption | simp [*]) rfl ?_; clear G; intro w G; go_frame)
                      | (refine wpu_storeB G rfl rfl rfl rfl (by rfl) (by rfl) (by first | rfl | assumption | simp [*]) ?_; clear G; intro w G; go_frame)
                      | (refine wpu_storeS G rfl rfl rfl rfl (by rfl) (by rfl) (by first | rfl | assumption | simp [*]) ?_; clear G; intro w G; go_frame))
                    | ((with_reducible refine at_convert ?_); refine wpu_str G rfl rfl rfl rfl ?_; go_frame)
                    | ((with_reducible refine at_slice ?_); first
                      | (refine wpu_sliceLo rfl rfl rfl rfl (by first | rfl | omega) (by omega) (by omega) ?_; go_frame)
                      | (refine wpu_sliceLH rfl rfl rfl rfl rfl (by first | rfl | omega) (by first | rfl | omega) (by omega) (by omega) ?_; go_frame))
                    | fail)
                  go_ret
                  exact ⟨rfl, G.below⟩
                · as_aux_lemma =>
                  have hat1 : ((q : Int) == (m2 : Int)) = false := by simp <;> omega
                  have hat2 : decide ((q : Int) = (m2 : Int)) = false := by simp <;> omega
                  clear hat
                  have hm2 := M2.out
                  go_wp2_with (first
                    | ((with_reducible refine at_alloc ?_); refine wpu_new G ?_; clear G; intro w G)
                    | ((with_reducible refine at_drew ?_); refine wpu_drew G ?_; clear G; intro w G)
                    | ((with_reducible refine at_load ?_); first
                      | (refine wpu_load G rfl rfl rfl rfl ?_; go_frame)
                      | (refine wpu_loadB G rfl rfl rfl (by rfl) ?_; go_frame)
                      | (refine wpu_loadS G rfl rfl rfl (by rfl) ?_; simp only [List.drop_succ_cons, List.drop_zero, List.take_succ_cons, List.take_zero]; go_frame))
                    | ((with_reducible refine at_store ?_); first
                      | (refine wpu_store G rfl rfl rfl rfl (by first | rfl | assumption | simp [*]) rfl ?_; clear G; intro w G; go_frame)
                      | (refine wpu_storeB G rfl rfl rfl rfl (by rfl) (by rfl) (by first | rfl | assumption | simp [*]) ?_; clear G; intro w G; go_frame)
                      | (refine wpu_storeS G rfl rfl rfl rfl (by rfl) (by rfl) (by first | rfl | assumption | simp [*]) ?_; clear G; intro w G; go_frame))
                    | ((with_reducible refine at_convert ?_); refine wpu_str G rfl rfl rfl rfl ?_; go_frame)
                    | ((with_reducible refine at_slice ?_); first
                      | (refine wpu_sliceLo rfl rfl rfl rfl (by first | rfl | omega) (by omega) (by omega) ?_; go_frame)
                      | (refine wpu_sliceLH rfl rfl rfl rfl rfl (by first | rfl | omega) (by first | rfl | omega) (by omega) (by omega) ?_; go_frame))
                    | ((with_reducible refine at_load ?_); refine wpu_loadC (G.rd (.slice (some ad) (k + 1) vc) _ G) HX.out rfl rfl rfl ?_; go_frame))
                  have hc1 := canq (f := mkF 9 stream false false (.slice po pl.length pc)) (G.pullF (asmA a)) rfl HP.out (by omega) (by omega) (by omega)
                  have hc2 := Can.more hc1 (stepq hl2 hq3 (by omega) HF.out)
                  refine Calls.mono hc2 ?_
                  clear hc1 hc2
                  clear G; rintro e w ⟨rfl, G⟩
                  go_wp2_with (first
                    | ((with_reducible refine at_alloc ?_); refine wpu_new G ?_; clear G; intro w G)
                    | ((with_reducible refine at_drew ?_); refine wpu_drew G ?_; clear G; intro w G)
                    | ((with_reducible refine at_load ?_); first
                      | (refine wpu_load G rfl rfl rfl rfl ?_; go_frame)
                      | (refine wpu_loadB G rfl rfl rfl (by rfl) ?_; go_frame)
                      | (refine wpu_loadS G rfl rfl rfl (by rfl) ?_; simp only [List.drop_succ_cons, List.drop_zero, List.take_succ_cons, List.take_zero]; go_frame))
                    | ((with_reducible refine at_store ?_); first
                      | (refine wpu_store G rfl rfl rfl rfl (by first | rfl | assumption | simp [*]) rfl ?_; clear G; intro w G; go_frame)
                      | (refine wpu_storeB G rfl rfl rfl rfl (by rfl) (by rfl) (by first | rfl | assumption | simp [*]) ?_; clear G; intro w G; go_frame)
                      | (refine wpu_storeS G rfl rfl rfl rfl (by rfl) (by rfl) (by first | rfl | assumption | simp [*]) ?_; clear G; intro w G; go_frame))
                    | ((with_reducible refine at_convert ?_); refine wpu_str G rfl rfl rfl rfl ?_; go_frame)
                    | ((with_reducible refine at_slice ?_); first
                      | (refine wpu_sliceLo rfl rfl rfl rfl (by first | rfl | omega) (by omega) (by omega) ?_; go_frame)
                      | (refine wpu_sliceLH rfl rfl rfl rfl rfl (by first | rfl | omega) (by first | rfl | omega) (by omega) (by omega) ?_; go_frame))
                    | fail)
                  have hc1 := canq (f := mkF 9 stream false false (.slice po pl.length pc)) (G.pullF (asmA c)) rfl HP.out (by omega) (by omega) (by omega)
                  have hc2 := Can.more hc1 (stepq hl2 hq3 (by omega) HF.out)
                  refine Calls.mono hc2 ?_
                  clear hc1 hc2
                  clear G; rintro e w ⟨rfl, G⟩
                  go_wp2_with (first
                    | ((with_reducible refine at_alloc ?_); refine wpu_new G ?_; clear G; intro w G)
                    | ((with_reducible refine at_drew ?_); refine wpu_drew G ?_; clear G; intro w G)
                    | ((with_reducible refine at_load ?_); first
                      | (refine wpu_load G rfl rfl rfl rfl ?_; go_frame)
                      | (refine wpu_loadB G rfl rfl rfl (by rfl) ?_; go_frame)
                      | (refine wpu_loadS G rfl rfl rfl (by rfl) ?_; simp only [List.drop_succ_cons, List.drop_zero, List.take_succ_cons, List.take_zero]; go_frame))
                    | ((with_reducible refine at_store ?_); first
                      | (refine wpu_store G rfl rfl rfl rfl (by first | rfl | assumption | simp [*]) rfl ?_; clear G; intro w G; go_frame)
                      | (refine wpu_storeB G rfl rfl rfl rfl (by rfl) (by rfl) (by first | rfl | assumption | simp [*]) ?_; clear G; intro w G; go_frame)
                      | (refine wpu_storeS G rfl rfl rfl rfl (by rfl) (by rfl) (by first | rfl | assumption | simp [*]) ?_; clear G; intro w G; go_frame))
                    | ((with_reducible refine at_convert ?_); refine wpu_str G rfl rfl rfl rfl ?_; go_frame)
                    | ((with_reducible refine at_slice ?_); first
                      | (refine wpu_sliceLo rfl rfl rfl rfl (by first | rfl | omega) (by omega) (by omega) ?_; go_frame)
                      | (refine wpu_sliceLH rfl rfl rfl rfl rfl (by first | rfl | omega) (by first | rfl | omega) (by omega) (by omega) ?_; go_frame))
                    | fail)
                  go_roundw
                  case rel => exact ⟨q + 1, ⟨1000, some (mkF 1 stream fin false v0, (zs.take (q + 1)).flatten), q + 1 - 1, none⟩, by go_num, by omega, fun h => by omega, fun _ _ => ⟨_, rfl⟩, G.give⟩
                  case measure => simp [intOf] <;> omega
          · go_wp2_with fail
            go_ret
            exact ⟨rfl, G.below⟩

theorem contract {H : Type} {enc : TypeId × Value → H} {W : World} {vs : List Value} {ds : List (DataW H)}
    (hA : Args enc Try.prog W [22, 23, 3, 4, 3] vs ds) (hsz : (DataW.weightsEach Try.prog [22, 23, 3, 4, 3] ds).all (· ≤ reachBytes) = true) :
    Calls Try.prog 3 vs.toArray W fun e W' => e = .returned (.bool true) ∧ Below W.heap.size W W' := by
  obtain ⟨v0, _, d0, _, rfl, rfl, h0, hA⟩ := args_cons hA
  obtain ⟨v1, _, d1, _, rfl, rfl, h1, hA⟩ := args_cons hA
  obtain ⟨v2, _, d2, _, rfl, rfl, h2, hA⟩ := args_cons hA
  obtain ⟨v3, _, d3, _, rfl, rfl, h3, hA⟩ := args_cons hA
  obtain ⟨v4, _, d4, _, rfl, rfl, h4, hA⟩ := args_cons hA
  obtain ⟨rfl, rfl⟩ := args_nil hA
  obtain ⟨l, hr, hd⟩ := arg_bytes Try.underlying22 Try.underlying5 (by kernel_rfl) h0
  obtain ⟨nc, xc, hc, -, hel⟩ := arg_ints Try.underlying23 (by kernel_rfl) Try.underlying3 h1
  obtain ⟨s, rfl, _, _⟩ := arg_i64 Try.underlying3 h2
  obtain ⟨b, rfl⟩ := arg_bool Try.underlying4 h3
  obtain ⟨n, rfl, _, _⟩ := arg_i64 Try.underlying3 h4
  exact wholeW hr hc hel


theorem spec {H : Type} : ∀ ds : List (DataW H), ds.length = 5 → Rows.blockWholeSpec.fn H ds = { results := [.lit (.bool true)], args := ds }
  | [_, _, _, _, _], _ => rfl
  | [], h => by cases h
  | [_], h => by cases h
  | [_, _], h => by cases h
  | [_, _, _], h => by cases h
  | [_, _, _, _], h => by cases h
  | _ :: _ :: _ :: _ :: _ :: _ :: _, h => by simp at h
set_option maxRecDepth 100000 in
theorem lifted (os : Os) (started : os.Started) (H : Type) (enc : TypeId × Value → H) :
    ReturnsInHanded {} Try.checked os 3 .any (Rows.blockWholeSpec.pre6 enc Try.prog Try.f3 Rows.blockWholeRow.domain false) (Rows.blockWholeSpec.post enc Try.prog Try.f3 false true false false) :=
  lifted_of_law (C := Try.checked) (fn := Try.f3) (s := Rows.blockWholeSpec) (tb := 4) (by kernel_rfl) started (by kernel_rfl) Try.func3
    (ChangeSpec.witness6 (enc := enc) (C := Try.checked) false ⟨#[], #[.slice none 0 0, .slice none 0 0, .int .i64 0, .bool false, .int .i64 0], []⟩ 8 (by kernel_rfl) (by kernel_rfl) (by kernel_rfl) (by kernel_rfl))
    rfl spec (by kernel_rfl) Try.underlying4 (by kernel_rfl) (by kernel_rfl) (fun _ _ _ h1 h2 => contract h1 h2)

theorem proved : Rows.BlockWholeSaid :=
  OpenClaim.holds_of_wide 3 Try.f3 rfl rfl rfl rfl rfl rfl rfl ⟨rfl, rfl, rfl, rfl, rfl⟩ rfl rfl rfl rfl rfl (by kernel_rfl) Try.func3 (by kernel_rfl)
    (of_decide_eq_true (by kernel_rfl)) (by unfold Func.isWrapper; first | (rw [if_pos (by decide +kernel)]; kernel_rfl) | (rw [if_neg (by decide +kernel)]; exact ⟨rfl, rfl⟩))
    (fun os started H enc _ => lifted os started H enc)
end Go.Proofs.Ytbjfokpdomogeaa.blockWhole
