




/-
  Tables: New, Version, Push; what must be in any case.
-/
import Derived.Test.YtjcpfldobiekbaaDoorRtCopied
import Derived.Test.YtjcpfldobiekbaaDoorRtFind
namespace Go.Proofs.YtjcpfldobiekbaaDoor
open Go.RowKit Go.Sl Go.ChangeShapes

section
variable {P : Program} {ops : Array Oper} {rest : List Oper} {o : Oper} {a : Act} {T T' ty : TypeId} {x y : Operand} {k : IntKind} {p q : Int} {b : Bool} {d : Option Tmp} {pos : String} {after : Array Edge} {g : Option (Nat × Bool)}
theorem atq_leq {C : World → Prop} {q : Act → Prop} {l : List Oper} (h : wpQuiet P ops C q (⟨d, .binOp .leq T x y T', ty, pos, after, g⟩ :: l) a) : wpQuiet P ops C q (⟨d, .binOp .leq T x y T', ty, pos, after, g⟩ :: l) a := h
theorem wpq_leq {ι : Type} {W : ι → World} {q' : Act → Prop} (ho : o.op = .binOp .leq T x y T') (hw : Region.wanted o (yielded ops a.tmps) = true) (hx : evalO a x = some (.int k p)) (hy : evalO a y = some (.int k q)) (hb : decide (p ≤ q) = b) (kk : wpQuiet P ops (fun w' => ∃ i, w' = W i) q' rest (a.put o.dst (.bool b))) : wpQuiet P ops (fun w' => ∃ i, w' = W i) q' (o :: rest) a := by
  subst hb
  exact wpq_val hw (fun i => exec_leqI ho hx hy) kk
end

/-- block b is a table that holds s -/
def tblA (b : Nat) (s : Sn) : Assn := ex fun vc => ex fun vh => blk b [.int .i64 s.version, vc, vh] * snA [.int .i64 s.version, vc, vh] s
theorem own_tbl {B w : World} {R : Assn} {b : Nat} {s : Sn} (h : Own B (tblA b s * R) w) : ∃ vc vh, Own B (blk b [.int .i64 s.version, vc, vh] * (snA [.int .i64 s.version, vc, vh] s * R)) w := by
  obtain ⟨vc, h⟩ := own_ex h
  obtain ⟨vh, h⟩ := own_ex h
  exact ⟨vc, vh, h.eq (star_assoc _ _ _)⟩
theorem own_tbl_mk {B w : World} {R : Assn} {b : Nat} {s : Sn} {vc vh : Value} (h : Own B (blk b [.int .i64 s.version, vc, vh] * (snA [.int .i64 s.version, vc, vh] s * R)) w) : Own B (tblA b s * R) w :=
  own_ex_mk vc (own_ex_mk vh (h.eq (star_assoc _ _ _).symm))
def noSn : Sn := ⟨0, [], []⟩
theorem own_noSn {B w : World} {R : Assn} (h : Own B R w) : Own B (snA [.int .i64 0, .slice none 0 0, .slice none 0 0] noSn * R) w :=
  own_snA_mk (s := noSn) (vc := .slice none 0 0) (vh := .slice none 0 0) (rows := []) (fun _ h => by cases h) (own_nil ((own_nil (h.eq (by show R = emp * R; rw [emp_star])) 2)) 1)

theorem newC {B w : World} {R : Assn} (h : Own B R w) : Calls Tryd.prog 14 #[] w fun e w' => ∃ b, e = .returned (.pointer (some ⟨b, 0, none⟩)) ∧ Own B (tblA b noSn * R) w' := by
  go_enter Tryd.func14, Tryd.ntmps14
  go_wp2_with fail
  go_ret
  exact ⟨_, rfl, own_tbl_mk (s := noSn) ((own_new (own_noSn h) [.int .i64 0, .slice none 0 0, .slice none 0 0] _).eq rfl)⟩

theorem versionC {B w : World} {R : Assn} {b : Nat} {s : Sn} (h : Own B (tblA b s * R) w) : Calls Tryd.prog 19 #[.pointer (some ⟨b, 0, none⟩)] w fun e w' => e = .returned (.int .i64 s.version) ∧ Own B (tblA b s * R) w' := by
  obtain ⟨vc, vh, G⟩ := own_tbl h
  clear h
  go_enter Tryd.func19, Tryd.ntmps19
  go_wp2_with (first
    | ((with_reducible refine at_alloc ?_); refine wpu_new G ?_; clear G; intro w G)
    | ((with_reducible refine at_drew ?_); refine wpu_drew G ?_; clear G; intro w G)
    | ((with_reducible refine at_load ?_); first
      | (refine wpu_load G rfl rfl rfl rfl ?_; go_frame)
      | (refine wpu_loadB G rfl rfl rfl (by rfl) ?_; go_frame)
      | (refine wpu_loadS G rfl rfl rfl (by rfl) ?_; simp only [List.drop_succ_cons, List.drop_zero, List.take_succ_cons, List.take_zero]; go_frame))
    | ((with_reducible refine at_store ?_); first
      | (refine wpu_store G rfl rfl rfl rfl (by first | rfl | assumption | simp [*]) rfl ?_; clear G; intro w G; go_frame)
      | (refine wpu_storeB G rfl rfl rfl rfl (by rfl) (by rfl) (by first | rfl | assumption | simp [*]) ?_; clear G; intro w G; go_frame)
      | (refine wpu_storeS G rfl rfl rfl rfl (by rfl) (by rfl) (by first | rfl | assumption | simp [*]) ?_; clear G; intro w G; go_frame))
    | ((with_reducible refine at_convert ?_); refine wpu_str G rfl rfl rfl rfl ?_; go_frame)
    | ((with_reducible refine at_slice ?_); first
      | (refine wpu_sliceLo rfl rfl rfl rfl (by first | rfl | omega) (by omega) (by omega) ?_; go_frame)
      | (refine wpu_sliceLH rfl rfl rfl rfl rfl (by first | rfl | omega) (by first | rfl | omega) (by omega) (by omega) ?_; go_frame))
    | fail)
  go_ret
  exact ⟨rfl, own_tbl_mk G⟩

theorem newR_len : ∀ {seen l : List Txt} {r : List Txt}, newR seen l = some r → r.length = seen.length + l.length
  | seen, [], r, h => by
    have : seen = r := Option.some.inj h
    subst this
    rfl
  | seen, x :: l, r, h => by
    unfold newR at h
    split at h
    · cases h
    · rw [newR_len h, List.length_append, List.length_cons]
      simp
      omega
theorem right_small {s : Sn} (h : rightR s = true) : s.small := by
  have hm := right_may h
  have key : ∀ (l : List Hs) (seen : List Txt), hostsR s.clusters seen l = true → ∀ x ∈ l, x.names.length ≤ 16 ∧ x.routes.length ≤ 32 := by
    intro l
    induction l with
    | nil => intro _ _ x hx; cases hx
    | cons y l ih =>
      intro seen h x hx
      unfold hostsR at h
      simp only [Bool.and_eq_true, decide_eq_true_eq] at h
      obtain ⟨⟨⟨h1, h2⟩, h3⟩, h4⟩ := h
      cases e : newR seen (y.names.map smallL) with
      | none => rw [e] at h4; cases h4
      | some seen' =>
        rw [e] at h4
        simp only [Bool.and_eq_true] at h4
        rcases List.mem_cons.1 hx with rfl | hx
        · exact ⟨h2, h3⟩
        · exact ih seen' h4.2 x hx
  have h0 := h
  unfold rightR at h
  simp only [Bool.and_eq_true, decide_eq_true_eq] at h
  obtain ⟨⟨⟨⟨h1, h2⟩, h3⟩, h4⟩, h5⟩ := h
  have hk := key s.hosts [] h5
  have hf : ∀ x ∈ s.hosts, ∀ r ∈ x.routes, r.fields.length ≤ 16 ∧ r.choices.length ≤ 16 := fun x hx r hr => by
    have := hm x hx r hr
    rw [mayR_eq] at this
    simp only [Bool.and_eq_true, decide_eq_true_eq] at this
    exact ⟨this.1.1.1.1.2, this.1.1.1.2⟩
  exact ⟨by omega, by omega, fun x hx => by have := (hk x hx).1; omega, fun x hx => by have := (hk x hx).2; omega, fun x hx r hr => by have := (hf x hx r hr).1; omega, fun x hx r hr => by have := (hf x hx r hr).2; omega⟩

def pushR (t s : Sn) : Bool := decide (t.version < s.version) && rightR s

set_option maxHeartbeats 16000000 in
set_option maxRecDepth 100000 in
theorem pushC {B w : World} {R : Assn} {b : Nat} {t s : Sn} {cs : List Value} (h : Own B (tblA b t * R) w) (hs : ∀ u, Own B (tblA b t * R) u → rdSn u cs s) (ok : s.ok) :
    Calls Tryd.prog 15 #[.pointer (some ⟨b, 0, none⟩), .agg cs.toArray] w fun e w' => e = .returned (.bool (pushR t s)) ∧ Own B (tblA b (if pushR t s then s else t) * R) w' := by
  obtain ⟨vc, vh, xs, rfl, -, -, -⟩ := hs w h
  obtain ⟨tc, th, G⟩ := own_tbl h
  obtain ⟨q, y1⟩ : ∃ q, decide (s.version ≤ t.version) = q := ⟨_, rfl⟩
  obtain ⟨ri, hri⟩ : ∃ q, rightR s = q := ⟨_, rfl⟩
  have HP : Hid (pushR t s = (!q && ri)) := Lib.hid (by
    unfold pushR
    rw [hri, ← y1, ← decide_not]
    congr 1
    exact decide_eq_decide.2 (by omega))
  have HRI := Lib.hid hri
  have HSM : Hid (ri = true → s.small) := Lib.hid (fun e => right_small (by rw [hri, e]))
  clear h hri
  obtain ⟨p, hp⟩ : ∃ p, pushR t s = p := ⟨_, rfl⟩
  rw [hp] at HP ⊢
  clear hp
  have G := own_new G [.int .i64 s.version, vc, vh] 25
  have hs1 : ∀ u, Own B (blk w.heap.size [.int .i64 s.version, vc, vh] * (blk b [.int .i64 t.version, tc, th] * (snA [.int .i64 t.version, tc, th] t * R))) u → rdSn u [.int .i64 s.version, vc, vh] s := fun u g => hs u (own_tbl_mk g.right)
  go_enter Tryd.func15, Tryd.ntmps15
  go_wp2_with fail
  refine wp_region_mix [3, 0, 3, 3, 3, 3, 0, 3, 3, 0, 1, 3, 3] (Own B _) (by kernel_rfl) (by kernel_rfl) (own_drew G) ?_
  refine mix_plain 1 (by rfl) (by rfl) ?_
  intro ι W hne
  dsimp only [List.take, List.drop]
  repeat (go_big_quiet_step (fail))
  refine wpQuiet_nil ?_
  clear hne W ι
  refine mix_calm 1 ((own_drew G)) (by rfl) (by rfl) ?_
  intro ι W hne hW
  dsimp only [List.take, List.drop]
  repeat (first | ((with_reducible refine atq_load ?_); first | (refine wpq_load hW rfl rfl rfl rfl ?_; go_frame) | (refine wpq_loadB hW rfl rfl rfl (by rfl) ?_; go_frame) | (refine wpq_loadS hW rfl rfl rfl (by rfl) ?_; simp only [List.drop_succ_cons, List.drop_zero, List.take_succ_cons, List.take_zero]; go_frame)) | (fail) | go_big_quiet_step (fail))
  refine wpQuiet_nil ?_
  clear  hW hne W ι
  refine mix_plain 4 (by rfl) (by rfl) ?_
  intro ι W hne
  dsimp only [List.take, List.drop]
  repeat (go_big_quiet_step (fail))
  refine wpQuiet_nil ?_
  clear hne W ι
  refine mix_calm 1 ((own_drew G)) (by rfl) (by rfl) ?_
  intro ι W hne hW
  dsimp only [List.take, List.drop]
  repeat (first | ((with_reducible refine atq_load ?_); first | (refine wpq_load hW rfl rfl rfl rfl ?_; go_frame) | (refine wpq_loadB hW rfl rfl rfl (by rfl) ?_; go_frame) | (refine wpq_loadS hW rfl rfl rfl (by rfl) ?_; simp only [List.drop_succ_cons, List.drop_zero, List.take_succ_cons, List.take_zero]; go_frame)) | (fail) | go_big_quiet_step (fail))
  refine wpQuiet_nil ?_
  clear  hW hne W ι
  refine mix_plain 2 (by rfl) (by rfl) ?_
  intro ι W hne
  dsimp only [List.take, List.drop]
  repeat (first | ((with_reducible refine atq_leq ?_); refine wpq_leq rfl (by kernel_rfl) rfl rfl y1 ?_; go_frame) | go_big_quiet_step (fail))
  refine wpQuiet_nil ?_
  clear hne W ι
  cases q with
  | true =>
    have e : p = false := HP.out
    subst e
    refine mix_calm 1 ((own_drew G)) (by rfl) (by rfl) ?_
    intro ι W hne hW
    dsimp only [List.take, List.drop]
    repeat (first | ((with_reducible refine atq_load ?_); first | (refine wpq_load hW rfl rfl rfl rfl ?_; go_frame) | (refine wpq_loadB hW rfl rfl rfl (by rfl) ?_; go_frame) | (refine wpq_loadS hW rfl rfl rfl (by rfl) ?_; simp only [List.drop_succ_cons, List.drop_zero, List.take_succ_cons, List.take_zero]; go_frame)) | (fail) | go_big_quiet_step (fail))
    refine wpQuiet_nil ?_
    clear  hW hne W ι
    refine Go.Sl.mix_skip rfl (by kernel_rfl) ?_
    try go_frame
    refine mix_plain 2 (by rfl) (by rfl) ?_
    intro ι W hne
    dsimp only [List.take, List.drop]
    repeat (go_big_quiet_step (fail))
    refine wpQuiet_nil ?_
    clear hne W ι
    refine mix_nil ?_
    go_wp2_with fail
    go_ret
    exact ⟨rfl, own_tbl_mk ((own_drew G).right)⟩
  | false =>
  have HP2 : Hid (p = ri) := Lib.hid HP.out
  clear HP
  refine mix_calm 1 ((own_drew G)) (by rfl) (by rfl) ?_
  intro ι W hne hW
  dsimp only [List.take, List.drop]
  repeat (first | ((with_reducible refine atq_load ?_); first | (refine wpq_load hW rfl rfl rfl rfl ?_; go_frame) | (refine wpq_loadB hW rfl rfl rfl (by rfl) ?_; go_frame) | (refine wpq_loadS hW rfl rfl rfl (by rfl) ?_; simp only [List.drop_succ_cons, List.drop_zero, List.take_succ_cons, List.take_zero]; go_frame)) | (fail) | go_big_quiet_step (fail))
  refine wpQuiet_nil ?_
  clear  hW hne W ι
  refine mix_loud_g (by kernel_rfl) (fun K hK => ?_)
  go_wp2_with fail
  refine Calls.mono (rightC (hs1 _ (own_drew G)) ok) ?_
  rintro e w1 ⟨rfl, hb⟩
  have G := own_kept (own_drew G) hb
  clear hb
  rw [HRI.out]
  refine hK _ _ ⟨G, ?_⟩
  clear hK
  try go_frame
  refine mix_plain 2 (by rfl) (by rfl) ?_
  intro ι W hne
  dsimp only [List.take, List.drop]
  repeat (go_big_quiet_step (fail))
  refine wpQuiet_nil ?_
  clear hne W ι
  refine mix_nil ?_
  cases ri with
  | false =>
    have e : p = false := HP2.out
    subst e
    go_wp2_with fail
    go_ret
    exact ⟨rfl, own_tbl_mk G.right⟩
  | true =>
  have e : p = true := HP2.out
  subst e
  have hsm := HSM.out rfl
  go_wp2_with (first
    | ((with_reducible refine at_alloc ?_); refine wpu_new G ?_; clear G; intro w G)
    | ((with_reducible refine at_drew ?_); refine wpu_drew G ?_; clear G; intro w G)
    | ((with_reducible refine at_load ?_); first
      | (refine wpu_load G rfl rfl rfl rfl ?_; go_frame)
      | (refine wpu_loadB G rfl rfl rfl (by rfl) ?_; go_frame)
      | (refine wpu_loadS G rfl rfl rfl (by rfl) ?_; simp only [List.drop_succ_cons, List.drop_zero, List.take_succ_cons, List.take_zero]; go_frame))
    | ((with_reducible refine at_store ?_); first
      | (refine wpu_store G rfl rfl rfl rfl (by first | rfl | assumption | simp [*]) rfl ?_; clear G; intro w G; go_frame)
      | (refine wpu_storeB G rfl rfl rfl rfl (by rfl) (by rfl) (by first | rfl | assumption | simp [*]) ?_; clear G; intro w G; go_frame)
      | (refine wpu_storeS G rfl rfl rfl rfl (by rfl) (by rfl) (by first | rfl | assumption | simp [*]) ?_; clear G; intro w G; go_frame))
    | ((with_reducible refine at_convert ?_); refine wpu_str G rfl rfl rfl rfl ?_; go_frame)
    | ((with_reducible refine at_slice ?_); first
      | (refine wpu_sliceLo rfl rfl rfl rfl (by first | rfl | omega) (by omega) (by omega) ?_; go_frame)
      | (refine wpu_sliceLH rfl rfl rfl rfl rfl (by first | rfl | omega) (by first | rfl | omega) (by omega) (by omega) ?_; go_frame))
    | fail)
  refine Calls.mono (copiedC (hs1 _ G) hsm) ?_
  rintro e w2 ⟨nc, nh, rfl, G2⟩
  have G := own_join G G2
  clear G2
  obtain ⟨_, _, _, e0, _, g2⟩ := own_snA G
  have o1 := (own_rd g2).one
  have o2 := (own_rd g2.right).one
  clear g2
  injection e0 with _ e0
  injection e0 with e1 e0
  injection e0 with e2 _
  subst e1 e2
  go_wp2_with (first
    | ((with_reducible refine at_store ?_); refine wpu_storeB G rfl rfl rfl rfl (by rfl) (by rfl) (by simp only [List.all_cons, o1, o2]; rfl) ?_; clear G; intro w G; go_frame)
    | fail)
  go_ret
  exact ⟨rfl, own_tbl_mk (s := s) (G.sub (blk b [.int .i64 s.version, nc, nh] * (snA [.int .i64 s.version, nc, nh] s * R)))⟩
end Go.Proofs.YtjcpfldobiekbaaDoor
