




/-
  flumeref16.Same of two that are the same: true.
-/
import Derived.Test.YtjcpfldobiekbaaDoorRtRight2
import Derived.Test.YtjcpfldobiekbaaDoorRtNow
namespace Go.Proofs.YtjcpfldobiekbaaDoor
open Go.RowKit Go.Sl Go.ChangeShapes Go.Fl

section
variable {P : Program} {C : World → Prop} {q : Act → Prop} {ops : Array Oper} {rest : List Oper} {a : Act} {x y : Operand} {d : Option Tmp} {ty T' : TypeId} {pos : String} {after : Array Edge} {g : Option (Nat × Bool)} {o : Oper} {l m : Txt} {w : World}
theorem atq_neS (h : wpQuiet P ops C q (⟨d, .binOp .neq 9 x y T', ty, pos, after, g⟩ :: rest) a) : wpQuiet P ops C q (⟨d, .binOp .neq 9 x y T', ty, pos, after, g⟩ :: rest) a := h
theorem wpq_neS {ι : Type} {W : ι → World} {q : Act → Prop} (ho : o.op = .binOp .neq 9 x y T') (hw : Region.wanted o (yielded ops a.tmps) = true) (hx : evalO a x = some (str l)) (hy : evalO a y = some (str m)) {b : Bool} (hb : (!decide (l = m)) = b)
    (kk : wpQuiet Tryd.prog ops (fun w' => ∃ i, w' = W i) q rest (a.put o.dst (.bool b))) : wpQuiet Tryd.prog ops (fun w' => ∃ i, w' = W i) q (o :: rest) a := by
  subst hb
  exact wpq_val hw (fun i => exec_strNe ho hx hy) kk
theorem wpu_nes {Q : Exit → Act → World → Prop} (ho : o.op = .binOp .neq 9 x y T') (hw : Region.wanted o (yielded ops a.tmps) = true) (hx : evalO a x = some (str l)) (hy : evalO a y = some (str m)) {b : Bool} (hb : (!decide (l = m)) = b) (kk : wpList Tryd.prog ops Q rest (a.put o.dst (.bool b)) w) : wpList Tryd.prog ops Q (o :: rest) a w := by
  subst hb
  exact wpu_val hw (exec_strNe ho hx hy) kk
theorem wpu_nei {Q : Exit → Act → World → Prop} {T : TypeId} {k : IntKind} {p r : Int} (ho : o.op = .binOp .neq T x y T') (hw : Region.wanted o (yielded ops a.tmps) = true) (hx : evalO a x = some (.int k p)) (hy : evalO a y = some (.int k r)) {b : Bool} (hb : (p != r) = b) (kk : wpList P ops Q rest (a.put o.dst (.bool b)) w) : wpList P ops Q (o :: rest) a w := by
  subst hb
  exact wpu_val hw (exec_neqI ho hx hy) kk
theorem atq_neM (h : wpQuiet P ops C q (⟨d, .binOp .neq 45 x y T', ty, pos, after, g⟩ :: rest) a) : wpQuiet P ops C q (⟨d, .binOp .neq 45 x y T', ty, pos, after, g⟩ :: rest) a := h
theorem atq_neFl (h : wpQuiet P ops C q (⟨d, .binOp .neq 36 x y T', ty, pos, after, g⟩ :: rest) a) : wpQuiet P ops C q (⟨d, .binOp .neq 36 x y T', ty, pos, after, g⟩ :: rest) a := h
theorem wpq_neF {ι : Type} {W : ι → World} {q : Act → Prop} {T : TypeId} {p r : Nat} (ho : o.op = .binOp .neq T x y T') (hw : Region.wanted o (yielded ops a.tmps) = true) (hx : evalO a x = some (.float .f64 p)) (hy : evalO a y = some (.float .f64 r)) {b : Bool} (hb : (Fl.ord p r != some .eq) = b)
    (kk : wpQuiet P ops (fun w' => ∃ i, w' = W i) q rest (a.put o.dst (.bool b))) : wpQuiet P ops (fun w' => ∃ i, w' = W i) q (o :: rest) a := by
  subst hb
  exact wpq_val hw (fun i => exec_fcmp ho hx hy (binOp_float_cmp_neq _ _ _ _)) kk
end
/-- a block gets a name -/
theorem own_named {B w : World} {b : Nat} {cs : List Value} {A : Assn} (h : Own B (blk b cs * A) w) : ∃ c, b = c ∧ Own B (blk c cs * A) w := ⟨b, rfl, h⟩
theorem own_named2 {B w : World} {b : Nat} {cs : List Value} {A X : Assn} (h : Own B (X * (blk b cs * A)) w) : ∃ c, b = c ∧ Own B (X * (blk c cs * A)) w := ⟨b, rfl, h⟩
theorem structM : Tryd.prog.underlying 45 = some (.struct (Tryd.prog.fieldsOf 45)) := by kernel_rfl
theorem stoodM : Tryd.prog.stoodInHeld 45 = false := by kernel_rfl
theorem guardM : Tryd.prog.eqGuardType Tryd.prog.depth 45 = false := by kernel_rfl
theorem equalMr (a b : Txt) (n : Int) (c : Bool) (w : World) : (Op.equalIn 10000 45 (.agg #[str a, str b, .int .i64 n, .bool c]) (.agg #[str a, str b, .int .i64 n, .bool c])).run Tryd.prog w = .ok true w := by
  show (Op.equalIn (9999 + 1) _ _ _).run Tryd.prog w = _
  rw [run_equalIn_struct w _ _ _ _ structM stoodM]
  unfold Program.fieldsOf
  rw [Tryd.underlying45]
  simp [Op.eqFields, part, str]
  have e9 : ∀ (x : Txt) (w : World), (Op.equalIn 9999 9 (.string ⟨x.toArray⟩) (.string ⟨x.toArray⟩)).run Tryd.prog w = .ok true w := by
    intro x w
    have := run_equalIn_string (P := Tryd.prog) w 9998 9 ⟨x.toArray⟩ ⟨x.toArray⟩ Tryd.underlying9
    simpa using this
  have e3 : ∀ (x : Int) (w : World), (Op.equalIn 9999 3 (.int .i64 x) (.int .i64 x)).run Tryd.prog w = .ok true w := fun x w => by
    have := run_equalIn_int (P := Tryd.prog) (w := w) 9998 3 .i64 .i64 x x Tryd.underlying3
    simpa using this
  have e4 : ∀ (x : Bool) (w : World), (Op.equalIn 9999 4 (.bool x) (.bool x)).run Tryd.prog w = .ok true w := fun x w => by
    have := run_equalIn_bool' (P := Tryd.prog) w 9998 4 x x Tryd.underlying4
    simpa using this
  simp [e9, e3, e4]
theorem exec_neMr {w : World} {o : Oper} {a : Act} {x y : Operand} {p q : Txt} {n : Int} {c : Bool} (ho : o.op = .binOp .neq 45 x y 45) (hx : evalO a x = some (.agg #[str p, str q, .int .i64 n, .bool c])) (hy : evalO a y = some (.agg #[str p, str q, .int .i64 n, .bool c])) : (execOp a.eval o).run Tryd.prog w = .ok (.value (.bool false)) w := by
  unfold execOp
  rw [ho]
  simp only [evalO_eq hx, evalO_eq hy]
  simp [run_eqGuard_agg, run_neq_struct, guardM, equalMr]

set_option maxHeartbeats 4000000 in
theorem textsC {w0 : World} {v u : Value} {l : List Txt} (h : rd w0 1 v l.length (strs l)) (k : rd w0 1 u l.length (strs l)) :
    Calls Tryd.prog 32 #[v, u] w0 fun e w' => e = .returned (.bool true) ∧ Below w0.heap.size w0 w' := by
  obtain ⟨ao, ac, rfl, i1, i2, -⟩ := id h
  obtain ⟨bo, bc, rfl, j1, j2, -⟩ := id k
  unfold maxLen at i2 j2
  have hv : ∀ A w, Own w0 A w → rd w 1 (.slice ao l.length ac) l.length (strs l) := fun A w g => h.old g
  have hu : ∀ A w, Own w0 A w → rd w 1 (.slice bo l.length bc) l.length (strs l) := fun A w g => k.old g
  clear h k
  go_enter Tryd.func32, Tryd.ntmps32
  go_wp2_with fail
  go_loopw [5] (fun i wr => ∃ j : Nat, i = .int .i64 j ∧ j ≤ l.length ∧ Own w0 emp wr) (fun i _ => l.length - (intOf i).toNat)
  case atStart => exact ⟨0, rfl, Nat.zero_le _, own_begin w0⟩
  case round =>
    obtain ⟨j, rfl, hj, G⟩ := hrel
    by_cases hjn : j < l.length
    · obtain ⟨x, hx⟩ : ∃ x, l[j]? = some x := ⟨l[j], List.getElem?_eq_getElem hjn⟩
      obtain ⟨a1, rfl⟩ := rd_some (hv _ _ G) (by omega)
      obtain ⟨a2, rfl⟩ := rd_some (hu _ _ G) (by omega)
      have HX := Lib.hid (strs_at hx)
      clear hx
      go_wp2_with fail
      refine wp_region_calm (C := Own _ _) (by kernel_rfl) (by kernel_rfl) (own_drew G) ?_
      intro ι W hne hW hs
      repeat (first | ((first | ((with_reducible refine atq_load ?_); first | (refine wpq_loadC (k := j) (fun i => hv _ _ (hW i)) HX.out rfl (by kernel_rfl) rfl ?_; go_frame) | (refine wpq_loadC (k := j) (fun i => hu _ _ (hW i)) HX.out rfl (by kernel_rfl) rfl ?_; go_frame)) | ((with_reducible refine atq_neS ?_); refine wpq_neS (b := false) rfl (by kernel_rfl) rfl rfl (by simp) ?_; go_frame))) | ((with_reducible refine atq_load ?_); first | (refine wpq_load hW rfl rfl rfl rfl ?_; go_frame) | (refine wpq_loadB hW rfl rfl rfl (by rfl) ?_; go_frame)) | go_big_quiet_step (fail))
      refine wpQuiet_nil ?_
      intro i
      have G := hW i
      generalize W i = wG at G ⊢
      clear  hs hW hne
      go_wp2_with fail
      go_roundw
      case rel => exact ⟨j + 1, by go_num, by omega, G⟩
      case measure => simp [intOf] <;> omega
    · go_wp2_with fail
      go_ret
      exact ⟨rfl, G.below⟩

set_option maxHeartbeats 16000000 in
set_option maxRecDepth 100000 in
theorem routesC {w0 : World} {cs ds : List Value} {r : Rt} (h : rdRt w0 cs r) (k : rdRt w0 ds r) (hok : ∀ c ∈ r.choices, okW c.weight = true) :
    Calls Tryd.prog 33 #[.agg cs.toArray, .agg ds.toArray] w0 fun e w' => e = .returned (.bool true) ∧ Below w0.heap.size w0 w' := by
  obtain ⟨vf, vc, rfl, hf, hc⟩ := h
  obtain ⟨uf, uc, rfl, kf, kc⟩ := k
  obtain ⟨fo, fc, rfl, i1, i2, -⟩ := id hf
  obtain ⟨co, cc, rfl, i3, i4, -⟩ := id hc
  obtain ⟨go, gc, rfl, j1, j2, -⟩ := id kf
  obtain ⟨eo, ec, rfl, j3, j4, -⟩ := id kc
  obtain ⟨path, how, service, method, fields, choices, ticks⟩ := r
  simp only at hf hc kf kc i1 i3 j1 j3 hok ⊢
  unfold maxLen at i2 i4 j2 j4
  have hf1 : ∀ A w, Own w0 A w → rd w 4 (.slice fo fields.length fc) fields.length (mrs fields) := fun A w g => hf.old g
  have hf2 : ∀ A w, Own w0 A w → rd w 4 (.slice go fields.length gc) fields.length (mrs fields) := fun A w g => kf.old g
  have hc1 : ∀ A w, Own w0 A w → rd w 2 (.slice co choices.length cc) choices.length (chs choices) := fun A w g => hc.old g
  have hc2 : ∀ A w, Own w0 A w → rd w 2 (.slice eo choices.length ec) choices.length (chs choices) := fun A w g => kc.old g
  clear hf hc kf kc
  have G := own_begin w0
  go_enter Tryd.func33, Tryd.ntmps33
  go_wp2_with (first
    | ((with_reducible refine at_alloc ?_); refine wpu_new G ?_; clear G; intro w G)
    | ((with_reducible refine at_drew ?_); refine wpu_drew G ?_; clear G; intro w G)
    | ((with_reducible refine at_neS ?_); refine wpu_nes (b := false) rfl (by kernel_rfl) rfl rfl (by simp) ?_; go_frame)
    | ((with_reducible refine at_neq ?_); refine wpu_nei (b := false) rfl (by kernel_rfl) rfl rfl (by simp) ?_; go_frame)
    | ((with_reducible refine at_load ?_); refine wpu_load G rfl (by kernel_rfl) rfl rfl ?_; go_frame)
    | fail)
  rename_i wb _ _
  obtain ⟨b3, hb3⟩ : ∃ b, wb.heap.size = b := ⟨_, rfl⟩
  obtain ⟨b2, hb2⟩ : ∃ b, w0.heap.size = b := ⟨_, rfl⟩
  rw [hb3, hb2] at G ⊢
  have G0 := Lib.hid (G.sub (blk b3 [str path, .int .i64 how, str service, str method, .slice go fields.length gc, .slice eo choices.length ec, .int .i64 ticks] * blk b2 [str path, .int .i64 how, str service, str method, .slice fo fields.length fc, .slice co choices.length cc, .int .i64 ticks]))
  have hb := Lib.hid hb2
  clear G hb3 hb2
  go_loopw [5] (fun i wr => ∃ j : Nat, i = .int .i64 j ∧ j ≤ fields.length ∧ Own w0 (blk b3 [str path, .int .i64 how, str service, str method, .slice go fields.length gc, .slice eo choices.length ec, .int .i64 ticks] * blk b2 [str path, .int .i64 how, str service, str method, .slice fo fields.length fc, .slice co choices.length cc, .int .i64 ticks]) wr) (fun i _ => fields.length - (intOf i).toNat)
  case atStart => exact ⟨0, rfl, Nat.zero_le _, G0.out⟩
  case round =>
    clear G0
    obtain ⟨j, rfl, hj, G⟩ := hrel
    by_cases hjn : j < fields.length
    · obtain ⟨x, hx⟩ : ∃ x, fields[j]? = some x := ⟨fields[j], List.getElem?_eq_getElem hjn⟩
      obtain ⟨a1, rfl⟩ := rd_some (hf1 _ _ G) (by omega)
      obtain ⟨a2, rfl⟩ := rd_some (hf2 _ _ G) (by omega)
      have HX := Lib.hid (mrs_at hx)
      clear hx
      go_wp2_with (first
        | ((with_reducible refine at_load ?_); refine wpu_load G rfl (by kernel_rfl) rfl rfl ?_; go_frame)
        | fail)
      refine wp_region_calm (C := Own _ _) (by kernel_rfl) (by kernel_rfl) (own_drew G) ?_
      intro ι W hne hW hs
      repeat (first | ((first | ((with_reducible refine atq_load ?_); first | (refine wpq_loadE (k := j) (fun i => hf1 _ _ (hW i)) HX.out rfl (by kernel_rfl) rfl rfl ?_; go_frame) | (refine wpq_loadE (k := j) (fun i => hf2 _ _ (hW i)) HX.out rfl (by kernel_rfl) rfl rfl ?_; go_frame)) | ((with_reducible refine atq_neM ?_); refine wpq_val (by kernel_rfl) (fun i => exec_neMr rfl rfl rfl) ?_; go_frame))) | ((with_reducible refine atq_load ?_); first | (refine wpq_load hW rfl rfl rfl rfl ?_; go_frame) | (refine wpq_loadB hW rfl rfl rfl (by rfl) ?_; go_frame)) | go_big_quiet_step (fail))
      refine wpQuiet_nil ?_
      intro i
      have G := hW i
      generalize W i = wG at G ⊢
      clear  hs hW hne
      go_wp2_with fail
      go_roundw
      case rel => exact ⟨j + 1, by go_num, by omega, G⟩
      case measure => simp [intOf] <;> omega
    · go_wp2_with (first
        | ((with_reducible refine at_load ?_); refine wpu_load G rfl (by kernel_rfl) rfl rfl ?_; go_frame)
        | fail)
      have G0 := Lib.hid G
      clear G
      go_loopw [6] (fun i wr => ∃ j : Nat, i = .int .i64 j ∧ j ≤ choices.length ∧ Own w0 (blk b3 [str path, .int .i64 how, str service, str method, .slice go fields.length gc, .slice eo choices.length ec, .int .i64 ticks] * blk b2 [str path, .int .i64 how, str service, str method, .slice fo fields.length fc, .slice co choices.length cc, .int .i64 ticks]) wr) (fun i _ => choices.length - (intOf i).toNat)
      case atStart => exact ⟨0, rfl, Nat.zero_le _, G0.out⟩
      case round =>
        clear G0
        obtain ⟨k, rfl, hk, G⟩ := hrel
        by_cases hkn : k < choices.length
        · obtain ⟨x, hx⟩ : ∃ x, choices[k]? = some x := ⟨choices[k], List.getElem?_eq_getElem hkn⟩
          obtain ⟨a1, rfl⟩ := rd_some (hc1 _ _ G) (by omega)
          obtain ⟨a2, rfl⟩ := rd_some (hc2 _ _ G) (by omega)
          have HX := Lib.hid (chs_at hx)
          have HN : (Fl.ord x.weight x.weight != some .eq) = false := by
            have h1 := okW_not x.weight
            rw [hok x (List.mem_of_getElem? hx)] at h1
            revert h1
            cases (Fl.ord x.weight x.weight != some .eq) <;> simp
          clear hx
          go_wp2_with (first
            | ((with_reducible refine at_load ?_); refine wpu_load G rfl (by kernel_rfl) rfl rfl ?_; go_frame)
            | fail)
          refine wp_region_calm (C := Own _ _) (by kernel_rfl) (by kernel_rfl) (own_drew G) ?_
          intro ι W hne hW hs
          repeat (first | ((first | ((with_reducible refine atq_load ?_); first | (refine wpq_loadF0 (k := k) (fun i => hc1 _ _ (hW i)) HX.out rfl (by kernel_rfl) rfl rfl ?_; go_frame) | (refine wpq_loadF0 (k := k) (fun i => hc2 _ _ (hW i)) HX.out rfl (by kernel_rfl) rfl rfl ?_; go_frame) | (refine wpq_loadF (k := k) (j := 0) (fun i => hc1 _ _ (hW i)) HX.out rfl (by kernel_rfl) rfl rfl ?_; go_frame) | (refine wpq_loadF (k := k) (j := 0) (fun i => hc2 _ _ (hW i)) HX.out rfl (by kernel_rfl) rfl rfl ?_; go_frame)) | ((with_reducible refine atq_neS ?_); refine wpq_neS (b := false) rfl (by kernel_rfl) rfl rfl (by simp) ?_; go_frame) | ((with_reducible refine atq_neFl ?_); refine wpq_neF rfl (by kernel_rfl) rfl rfl HN ?_; go_frame))) | ((with_reducible refine atq_load ?_); first | (refine wpq_load hW rfl rfl rfl rfl ?_; go_frame) | (refine wpq_loadB hW rfl rfl rfl (by rfl) ?_; go_frame)) | go_big_quiet_step (fail))
          refine wpQuiet_nil ?_
          intro i
          have G := hW i
          generalize W i = wG at G ⊢
          clear  hs hW hne
          go_wp2_with fail
          go_roundw
          case rel => exact ⟨k + 1, by go_num, by omega, G⟩
          case measure => simp [intOf] <;> omega
        · go_wp2_with (first
            | ((with_reducible refine at_load ?_); refine wpu_load G rfl (by kernel_rfl) rfl rfl ?_; go_frame)
            | fail)
          go_ret
          exact ⟨rfl, hb.out ▸ G.below⟩

set_option maxHeartbeats 16000000 in
set_option maxRecDepth 100000 in
theorem sameC {w0 : World} {cs ds : List Value} {s : Sn} (h : rdSn w0 cs s) (k : rdSn w0 ds s) (hok : ∀ h ∈ s.hosts, ∀ r ∈ h.routes, ∀ c ∈ r.choices, okW c.weight = true) :
    Calls Tryd.prog 18 #[.agg cs.toArray, .agg ds.toArray] w0 fun e w' => e = .returned (.bool true) ∧ Below w0.heap.size w0 w' := by
  obtain ⟨vc, vh, xs, rfl, hc, hh, hL⟩ := h
  obtain ⟨uc, uh, ys, rfl, kc, kh, kL⟩ := k
  obtain ⟨co, cc, rfl, i1, i2, -⟩ := id hc
  obtain ⟨ho, hcap, rfl, i3, i4, -⟩ := id hh
  obtain ⟨eo, ec, rfl, j1, j2, -⟩ := id kc
  obtain ⟨go, gc, rfl, j3, j4, -⟩ := id kh
  obtain ⟨version, clusters, hosts⟩ := s
  simp only at hc hh kc kh i1 i3 j1 j3 hok hL kL ⊢
  unfold maxLen at i2 i4 j2 j4
  have hc1 : ∀ A w, Own w0 A w → rd w 1 (.slice co clusters.length cc) clusters.length (strs clusters) := fun A w g => hc.old g
  have hc2 : ∀ A w, Own w0 A w → rd w 1 (.slice eo clusters.length ec) clusters.length (strs clusters) := fun A w g => kc.old g
  have hh1 : ∀ A w, Own w0 A w → rd w 2 (.slice ho hosts.length hcap) hosts.length xs := fun A w g => hh.old g
  have hh2 : ∀ A w, Own w0 A w → rd w 2 (.slice go hosts.length gc) hosts.length ys := fun A w g => kh.old g
  clear hc kc hh kh
  have G := own_begin w0
  go_enter Tryd.func18, Tryd.ntmps18
  go_wp2_with (first
    | ((with_reducible refine at_alloc ?_); refine wpu_new G ?_; clear G; intro w G)
    | ((with_reducible refine at_drew ?_); refine wpu_drew G ?_; clear G; intro w G)
    | ((with_reducible refine at_neq ?_); refine wpu_nei (b := false) rfl (by kernel_rfl) rfl rfl (by simp) ?_; go_frame)
    | ((with_reducible refine at_load ?_); refine wpu_load G rfl (by kernel_rfl) rfl rfl ?_; go_frame)
    | fail)
  obtain ⟨b3, hb3, G⟩ := own_named G
  obtain ⟨b2, hb2, G⟩ := own_named2 G
  rw [hb3, hb2]
  have hb := Lib.hid hb2
  clear hb3 hb2
  refine Calls.mono (textsC (hc1 _ _ G) (hc2 _ _ G)) ?_
  rintro e w1 ⟨rfl, hbl⟩
  replace G := own_kept G hbl
  clear hbl
  go_wp2_with (first
    | ((with_reducible refine at_neq ?_); refine wpu_nei (b := false) rfl (by kernel_rfl) rfl rfl (by simp) ?_; go_frame)
    | ((with_reducible refine at_load ?_); refine wpu_load G rfl (by kernel_rfl) rfl rfl ?_; go_frame)
    | fail)
  have G0 := Lib.hid (G.sub (blk b3 [.int .i64 version, .slice eo clusters.length ec, .slice go hosts.length gc] * blk b2 [.int .i64 version, .slice co clusters.length cc, .slice ho hosts.length hcap]))
  clear G
  go_loopw [5, 6, 7, 8, 9] (fun i _ _ _ _ wr => ∃ j : Nat, i = .int .i64 j ∧ j ≤ hosts.length ∧ Own w0 (blk b3 [.int .i64 version, .slice eo clusters.length ec, .slice go hosts.length gc] * blk b2 [.int .i64 version, .slice co clusters.length cc, .slice ho hosts.length hcap]) wr) (fun i _ _ _ _ _ => hosts.length - (intOf i).toNat)
  case atStart => exact ⟨0, rfl, Nat.zero_le _, G0.out⟩
  case round =>
    clear G0
    obtain ⟨j, rfl, hj, G⟩ := hrel
    by_cases hjn : j < hosts.length
    · obtain ⟨x, hx⟩ : ∃ x, hosts[j]? = some x := ⟨hosts[j], List.getElem?_eq_getElem hjn⟩
      have hokx := hok x (List.mem_of_getElem? hx)
      obtain ⟨vn, vr, zs, hcs, hn0, hr0, hRL⟩ := hL.2 j x hx
      obtain ⟨un, ur, ws, kcs, kn0, kr0, kRL⟩ := kL.2 j x hx
      obtain ⟨no, nc, rfl, i5, i6, -⟩ := id hn0
      obtain ⟨ro, rc, rfl, i7, i8, -⟩ := id hr0
      obtain ⟨mo, mc, rfl, j5, j6, -⟩ := id kn0
      obtain ⟨so, sc, rfl, j7, j8, -⟩ := id kr0
      unfold maxLen at i6 i8 j6 j8
      have hn1 : ∀ A w, Own w0 A w → rd w 1 (.slice no x.names.length nc) x.names.length (strs x.names) := fun A w g => hn0.old g
      have hn2 : ∀ A w, Own w0 A w → rd w 1 (.slice mo x.names.length mc) x.names.length (strs x.names) := fun A w g => kn0.old g
      have hr1 : ∀ A w, Own w0 A w → rd w 7 (.slice ro x.routes.length rc) x.routes.length zs := fun A w g => hr0.old g
      have hr2 : ∀ A w, Own w0 A w → rd w 7 (.slice so x.routes.length sc) x.routes.length ws := fun A w g => kr0.old g
      have HX := Lib.hid hcs
      have KX := Lib.hid kcs
      obtain ⟨a1, rfl⟩ := rd_some (hh1 _ _ G) (by omega)
      obtain ⟨a2, rfl⟩ := rd_some (hh2 _ _ G) (by omega)
      clear hx hcs kcs hn0 hr0 kn0 kr0
      go_wp2_with (first
        | ((with_reducible refine at_alloc ?_); refine wpu_new G ?_; clear G; intro w G)
        | ((with_reducible refine at_drew ?_); refine wpu_drew G ?_; clear G; intro w G)
        | ((with_reducible refine at_load ?_); first
          | (refine wpu_load G rfl (by kernel_rfl) rfl rfl ?_; go_frame)
          | (refine wpu_loadE (k := j) (hh1 _ _ G) HX.out rfl (by kernel_rfl) rfl rfl ?_; go_frame)
          | (refine wpu_loadE (k := j) (hh2 _ _ G) KX.out rfl (by kernel_rfl) rfl rfl ?_; go_frame))
        | ((with_reducible refine at_store ?_); refine wpu_storeB G rfl rfl rfl rfl (by rfl) (by rfl) (by rfl) ?_; clear G; intro w G; go_frame)
        | fail)
      obtain ⟨b7, hb7, G⟩ := own_named G
      obtain ⟨b6, hb6, G⟩ := own_named2 G
      rw [hb7, hb6]
      clear hb7 hb6
      refine Calls.mono (textsC (hn1 _ _ G) (hn2 _ _ G)) ?_
      rintro e w2 ⟨rfl, hbl⟩
      replace G := own_kept G hbl
      clear hbl
      go_wp2_with (first
        | ((with_reducible refine at_neq ?_); refine wpu_nei (b := false) rfl (by kernel_rfl) rfl rfl (by simp) ?_; go_frame)
        | ((with_reducible refine at_load ?_); refine wpu_load G rfl (by kernel_rfl) rfl rfl ?_; go_frame)
        | fail)
      have G0 := Lib.hid (G.sub (blk b7 [.slice mo x.names.length mc, .slice so x.routes.length sc] * (blk b6 [.slice no x.names.length nc, .slice ro x.routes.length rc] * (blk b3 [.int .i64 version, .slice eo clusters.length ec, .slice (some a2) hosts.length gc] * blk b2 [.int .i64 version, .slice co clusters.length cc, .slice (some a1) hosts.length hcap]))))
      clear G
      go_loopw [8, 9] (fun i _ wr => ∃ q : Nat, i = .int .i64 q ∧ q ≤ x.routes.length ∧ Own w0 (blk b7 [.slice mo x.names.length mc, .slice so x.routes.length sc] * (blk b6 [.slice no x.names.length nc, .slice ro x.routes.length rc] * (blk b3 [.int .i64 version, .slice eo clusters.length ec, .slice (some a2) hosts.length gc] * blk b2 [.int .i64 version, .slice co clusters.length cc, .slice (some a1) hosts.length hcap]))) wr) (fun i _ _ => x.routes.length - (intOf i).toNat)
      case atStart => exact ⟨0, rfl, Nat.zero_le _, G0.out⟩
      case round =>
        clear G0
        obtain ⟨q, rfl, hq, G⟩ := hrel
        by_cases hqn : q < x.routes.length
        · obtain ⟨r, hr⟩ : ∃ r, x.routes[q]? = some r := ⟨x.routes[q], List.getElem?_eq_getElem hqn⟩
          have hokr := hokx r (List.mem_of_getElem? hr)
          have hq1 := hRL.2 q r hr
          have hq2 := kRL.2 q r hr
          obtain ⟨a3, rfl⟩ := rd_some (hr1 _ _ G) (by omega)
          obtain ⟨a4, rfl⟩ := rd_some (hr2 _ _ G) (by omega)
          obtain ⟨c1, hc1'⟩ : ∃ c, (zs.drop (q * 7)).take 7 = c := ⟨_, rfl⟩
          obtain ⟨c2, hc2'⟩ : ∃ c, (ws.drop (q * 7)).take 7 = c := ⟨_, rfl⟩
          rw [hc1'] at hq1
          rw [hc2'] at hq2
          have HC1 := Lib.hid hc1'
          have HC2 := Lib.hid hc2'
          have HL1 : Hid (c1.length = 7) := Lib.hid (by obtain ⟨_, _, e, _⟩ := hq1; rw [e]; rfl)
          have HL2 : Hid (c2.length = 7) := Lib.hid (by obtain ⟨_, _, e, _⟩ := hq2; rw [e]; rfl)
          clear hr hc1' hc2'
          go_wp2_with (first
            | ((with_reducible refine at_load ?_); refine wpu_load G rfl (by kernel_rfl) rfl rfl ?_; go_frame)
            | fail)
          replace G := own_drew G
          refine wp_region_mix [3, 0, 3, 3, 0, 3, 0, 3, 3, 0, 1, 3] (Own w0 (blk b7 [.slice mo x.names.length mc, .slice (some a4) x.routes.length sc] * (blk b6 [.slice no x.names.length nc, .slice (some a3) x.routes.length rc] * (blk b3 [.int .i64 version, .slice eo clusters.length ec, .slice (some a2) hosts.length gc] * blk b2 [.int .i64 version, .slice co clusters.length cc, .slice (some a1) hosts.length hcap])))) (by kernel_rfl) (by kernel_rfl) G ?_
          have GB : Own w0 (blk b7 [.slice mo x.names.length mc, .slice (some a4) x.routes.length sc] * (blk b6 [.slice no x.names.length nc, .slice (some a3) x.routes.length rc] * (blk b3 [.int .i64 version, .slice eo clusters.length ec, .slice (some a2) hosts.length gc] * blk b2 [.int .i64 version, .slice co clusters.length cc, .slice (some a1) hosts.length hcap]))) _ := G
          refine mix_plain 1 (by rfl) (by rfl) ?_
          intro ι W hne
          dsimp only [List.take, List.drop]
          repeat (go_big_quiet_step (fail))
          refine wpQuiet_nil ?_
          clear hne W ι
          refine mix_calm 1 (GB) (by rfl) (by rfl) ?_
          intro ι W hne hW
          dsimp only [List.take, List.drop]
          repeat (first | ((with_reducible refine atq_load ?_); first | (refine wpq_load hW rfl rfl rfl rfl ?_; go_frame) | (refine wpq_loadB hW rfl rfl rfl (by rfl) ?_; go_frame) | (refine wpq_loadS hW rfl rfl rfl (by rfl) ?_; simp only [List.drop_succ_cons, List.drop_zero, List.take_succ_cons, List.take_zero]; go_frame)) | (fail) | go_big_quiet_step (fail))
          refine wpQuiet_nil ?_
          clear  hW hne W ι
          refine mix_plain 2 (by rfl) (by rfl) ?_
          intro ι W hne
          dsimp only [List.take, List.drop]
          repeat (go_big_quiet_step (fail))
          refine wpQuiet_nil ?_
          clear hne W ι
          refine mix_calm 1 (GB) (by rfl) (by rfl) ?_
          intro ι W hne hW
          dsimp only [List.take, List.drop]
          repeat (first | ((with_reducible refine atq_load ?_); refine wpq_loadE (k := q) (fun i => hr1 _ _ (hW i)) HC1.out rfl (by kernel_rfl) rfl HL1.out ?_; go_frame) | ((with_reducible refine atq_load ?_); first | (refine wpq_load hW rfl rfl rfl rfl ?_; go_frame) | (refine wpq_loadB hW rfl rfl rfl (by rfl) ?_; go_frame)) | go_big_quiet_step (fail))
          refine wpQuiet_nil ?_
          clear  hW hne W ι
          refine mix_plain 1 (by rfl) (by rfl) ?_
          intro ι W hne
          dsimp only [List.take, List.drop]
          repeat (go_big_quiet_step (fail))
          refine wpQuiet_nil ?_
          clear hne W ι
          refine mix_calm 1 (GB) (by rfl) (by rfl) ?_
          intro ι W hne hW
          dsimp only [List.take, List.drop]
          repeat (first | ((with_reducible refine atq_load ?_); first | (refine wpq_load hW rfl rfl rfl rfl ?_; go_frame) | (refine wpq_loadB hW rfl rfl rfl (by rfl) ?_; go_frame) | (refine wpq_loadS hW rfl rfl rfl (by rfl) ?_; simp only [List.drop_succ_cons, List.drop_zero, List.take_succ_cons, List.take_zero]; go_frame)) | (fail) | go_big_quiet_step (fail))
          refine wpQuiet_nil ?_
          clear  hW hne W ι
          refine mix_plain 2 (by rfl) (by rfl) ?_
          intro ι W hne
          dsimp only [List.take, List.drop]
          repeat (go_big_quiet_step (fail))
          refine wpQuiet_nil ?_
          clear hne W ι
          refine mix_calm 1 (GB) (by rfl) (by rfl) ?_
          intro ι W hne hW
          dsimp only [List.take, List.drop]
          repeat (first | ((with_reducible refine atq_load ?_); refine wpq_loadE (k := q) (fun i => hr2 _ _ (hW i)) HC2.out rfl (by kernel_rfl) rfl HL2.out ?_; go_frame) | ((with_reducible refine atq_load ?_); first | (refine wpq_load hW rfl rfl rfl rfl ?_; go_frame) | (refine wpq_loadB hW rfl rfl rfl (by rfl) ?_; go_frame)) | go_big_quiet_step (fail))
          refine wpQuiet_nil ?_
          clear  hW hne W ι
          clear GB
          refine mix_loud rfl (fun K hK => ?_)
          go_wp2_with fail
          refine Calls.mono (routesC (hq1.next G.1) (hq2.next G.1) hokr) ?_
          rintro e w3 ⟨rfl, hbl⟩
          replace G := own_kept G hbl
          clear hbl
          refine hK _ _ ⟨G, ?_⟩
          clear hK
          try go_frame
          refine mix_plain 1 (by rfl) (by rfl) ?_
          intro ι W hne
          dsimp only [List.take, List.drop]
          repeat (go_big_quiet_step (fail))
          refine wpQuiet_nil ?_
          clear hne W ι
          refine mix_nil ?_
          go_wp2_with fail
          go_roundw
          case rel => exact ⟨q + 1, by go_num, by omega, G⟩
          case measure => simp [intOf] <;> omega
        · go_wp2_with (first
            | ((with_reducible refine at_load ?_); refine wpu_load G rfl (by kernel_rfl) rfl rfl ?_; go_frame)
            | fail)
          go_roundw
          case rel => exact ⟨j + 1, by go_num, by omega, G.sub (blk b3 [.int .i64 version, .slice eo clusters.length ec, .slice (some a2) hosts.length gc] * blk b2 [.int .i64 version, .slice co clusters.length cc, .slice (some a1) hosts.length hcap])⟩
          case measure => simp [intOf] <;> omega
    · go_wp2_with (first
        | ((with_reducible refine at_load ?_); refine wpu_load G rfl (by kernel_rfl) rfl rfl ?_; go_frame)
        | fail)
      go_ret
      exact ⟨rfl, hb.out ▸ G.below⟩
end Go.Proofs.YtjcpfldobiekbaaDoor
