




/-
  The document's table: Push; a snapshot whose texts are written over.
-/
import Derived.Test.YtjcpfldobiekbaaDoorRtSame
namespace Go.Proofs.YtjcpfldobiekbaaDoor
open Go.RowKit Go.Sl Go.ChangeShapes Go.Fl

set_option maxHeartbeats 16000000 in
set_option maxRecDepth 100000 in
theorem pushRefC {B w : World} {R : Assn} {b : Nat} {t s : Sn} {cs : List Value} (h : Own B (tblA b t * R) w) (hs : ∀ u, Own B (tblA b t * R) u → rdSn u cs s) (ok : s.ok) :
    Calls Tryd.prog 16 #[.pointer (some ⟨b, 0, none⟩), .agg cs.toArray] w fun e w' => e = .returned (.bool (pushR t s)) ∧ Own B (tblA b (if pushR t s then s else t) * R) w' := by
  obtain ⟨vc, vh, xs, rfl, -, -, -⟩ := hs w h
  obtain ⟨tc, th, G⟩ := own_tbl h
  obtain ⟨q, y1⟩ : ∃ q, decide (s.version ≤ t.version) = q := ⟨_, rfl⟩
  obtain ⟨ri, hri⟩ : ∃ q, rightR s = q := ⟨_, rfl⟩
  have HP : Hid (pushR t s = (!q && ri)) := Lib.hid (by
    unfold pushR
    rw [hri, ← y1, ← decide_not]
    congr 1
    exact decide_eq_decide.2 (by omega))
  have HRI := Lib.hid hri
  have HSM : Hid (ri = true → s.small) := Lib.hid (fun e => right_small (by rw [hri, e]))
  clear h hri
  obtain ⟨p, hp⟩ : ∃ p, pushR t s = p := ⟨_, rfl⟩
  rw [hp] at HP ⊢
  clear hp
  have G := own_new G [.int .i64 s.version, vc, vh] 25
  have hs1 : ∀ u, Own B (blk w.heap.size [.int .i64 s.version, vc, vh] * (blk b [.int .i64 t.version, tc, th] * (snA [.int .i64 t.version, tc, th] t * R))) u → rdSn u [.int .i64 s.version, vc, vh] s := fun u g => hs u (own_tbl_mk g.right)
  go_enter Tryd.func16, Tryd.ntmps16
  go_wp2_with (first
    | ((with_reducible refine at_load ?_); refine wpu_loadB G rfl (by kernel_rfl) rfl (by rfl) ?_; go_frame)
    | fail)
  refine Calls.mono (rightRefC (hs1 _ G) ok) ?_
  rintro e w1 ⟨rfl, hb⟩
  replace G := own_kept G hb
  clear hb
  rw [HRI.out]
  cases ri with
  | false =>
    have e : p = false := by rw [HP.out]; cases q <;> rfl
    subst e
    go_wp2_with fail
    refine wp_region_calm (C := Own _ _) (by kernel_rfl) (by kernel_rfl) (own_drew G) ?_
    intro ι W hne hW hs
    repeat (first | ((first | go_big_quiet_skip | ((with_reducible refine atq_load ?_); refine wpq_load hW rfl (by kernel_rfl) rfl rfl ?_; go_frame))) | ((with_reducible refine atq_load ?_); first | (refine wpq_load hW rfl rfl rfl rfl ?_; go_frame) | (refine wpq_loadB hW rfl rfl rfl (by rfl) ?_; go_frame)) | go_big_quiet_step (fail))
    refine wpQuiet_nil ?_
    intro i
    have g := hW i
    generalize W i = wg at g ⊢
    clear  hs hW hne
    go_wp2_with fail
    go_ret
    exact ⟨rfl, own_tbl_mk g.right⟩
  | true =>
  have HP2 : Hid (p = !q) := Lib.hid (by rw [HP.out]; cases q <;> rfl)
  clear HP
  have hsm := HSM.out rfl
  cases q with
  | true =>
    have e : p = false := HP2.out
    subst e
    go_wp2_with fail
    refine wp_region_calm (C := Own _ _) (by kernel_rfl) (by kernel_rfl) (own_drew G) ?_
    intro ι W hne hW hs
    repeat (first | ((first | go_big_quiet_skip | ((with_reducible refine atq_load ?_); refine wpq_load hW rfl (by kernel_rfl) rfl rfl ?_; go_frame) | ((with_reducible refine atq_leq ?_); refine wpq_leq rfl (by kernel_rfl) rfl rfl y1 ?_; go_frame))) | ((with_reducible refine atq_load ?_); first | (refine wpq_load hW rfl rfl rfl rfl ?_; go_frame) | (refine wpq_loadB hW rfl rfl rfl (by rfl) ?_; go_frame)) | go_big_quiet_step (fail))
    refine wpQuiet_nil ?_
    intro i
    have g := hW i
    generalize W i = wg at g ⊢
    clear  hs hW hne
    go_wp2_with fail
    go_ret
    exact ⟨rfl, own_tbl_mk g.right⟩
  | false =>
  have e : p = true := HP2.out
  subst e
  go_wp2_with fail
  refine wp_region_calm (C := Own _ _) (by kernel_rfl) (by kernel_rfl) (own_drew G) ?_
  intro ι W hne hW hs
  repeat (first | ((first | go_big_quiet_skip | ((with_reducible refine atq_load ?_); refine wpq_load hW rfl (by kernel_rfl) rfl rfl ?_; go_frame) | ((with_reducible refine atq_leq ?_); refine wpq_leq rfl (by kernel_rfl) rfl rfl y1 ?_; go_frame))) | ((with_reducible refine atq_load ?_); first | (refine wpq_load hW rfl rfl rfl rfl ?_; go_frame) | (refine wpq_loadB hW rfl rfl rfl (by rfl) ?_; go_frame)) | go_big_quiet_step (fail))
  refine wpQuiet_nil ?_
  intro i
  have g := hW i
  generalize W i = wg at g ⊢
  clear  hs hW hne
  go_wp2_with (first
    | ((with_reducible refine at_load ?_); refine wpu_loadB g rfl (by kernel_rfl) rfl (by rfl) ?_; go_frame)
    | fail)
  refine Calls.mono (copyC (hs1 _ g) hsm) ?_
  rintro e w2 ⟨cs', rfl, G2⟩
  have G := own_join g G2
  clear G2 g
  obtain ⟨nc, nh, rows, rfl, -, g2⟩ := own_snA G
  have o1 := (own_rd g2).one
  have o2 := (own_rd g2.right).one
  clear g2
  go_wp2_with (first
    | ((with_reducible refine at_store ?_); refine wpu_storeB G rfl rfl rfl rfl (by rfl) (by rfl) (by simp only [List.all_cons, o1, o2]; rfl) ?_; clear G; intro w G; go_frame)
    | fail)
  go_ret
  exact ⟨rfl, own_tbl_mk (s := s) (G.sub (blk b [.int .i64 s.version, nc, nh] * (snA [.int .i64 s.version, nc, nh] s * R)))⟩

/-! a snapshot whose texts may be written over: only the shape -/
def hsW (c : List Value) (h : Hs) : Assn := ex fun vn => ex fun vr => ex fun ys => ex fun zs => ex fun rr : Assn => pur (c = [vn, vr]) * (sl 1 vn h.names.length ys * (sl 7 vr h.routes.length zs * rr))
theorem star_mono {A A' C C' : Assn} (h : ∀ x, A x → A' x) (k : ∀ x, C x → C' x) : ∀ x, (A * C) x → (A' * C') x := by
  rintro x ⟨h1, h2, d, e, a, b⟩
  exact ⟨h1, h2, d, e, h _ a, k _ b⟩
theorem starL_mono {α : Type} {f g : List Value → α → Assn} (h : ∀ c a x, f c a x → g c a x) : ∀ (cs : List (List Value)) (ls : List α) x, starL f cs ls x → starL g cs ls x
  | [], [], _, k => k
  | c :: cs, a :: ls, x, k => star_mono (h c a) (starL_mono h cs ls) x k
  | [], _ :: _, _, k => k
  | _ :: _, [], _, k => k
theorem ex_star' {α : Sort _} (f : α → Assn) (A : Assn) : A * ex f = ex fun x => A * f x := by
  rw [star_comm, ex_star]
  congr 1
  funext x
  rw [star_comm]
theorem hsW_of {c : List Value} {h : Hs} : ∀ x, hsA c h x → hsW c h x := by
  rintro x ⟨vn, vr, rows, k⟩
  refine ⟨vn, vr, strs h.names, rows.flatten, starL rtA rows h.routes, ?_⟩
  obtain ⟨h1, h2, d, e, ⟨⟨p1, -⟩, p2⟩, b⟩ := k
  exact ⟨h1, h2, d, e, ⟨p1, p2⟩, b⟩
theorem own_hsW {B w : World} {R : Assn} {c : List Value} {h : Hs} (G : Own B (hsW c h * R) w) : ∃ vn vr ys zs rr, c = [vn, vr] ∧ Own B (sl 1 vn h.names.length ys * (sl 7 vr h.routes.length zs * (rr * R))) w := by
  obtain ⟨vn, G⟩ := own_ex G
  obtain ⟨vr, G⟩ := own_ex G
  obtain ⟨ys, G⟩ := own_ex G
  obtain ⟨zs, G⟩ := own_ex G
  obtain ⟨rr, G⟩ := own_ex G
  obtain ⟨e, G⟩ := own_pur (G.eq (star_assoc _ _ _))
  exact ⟨vn, vr, ys, zs, rr, e, G.eq (by ac_rfl)⟩
theorem own_hsW_mk {B w : World} {R : Assn} {vn vr : Value} {ys zs : List Value} {rr : Assn} {h : Hs} (G : Own B (sl 1 vn h.names.length ys * (sl 7 vr h.routes.length zs * (rr * R))) w) : Own B (hsW [vn, vr] h * R) w := by
  refine own_ex_mk vn (own_ex_mk vr (own_ex_mk ys (own_ex_mk zs (own_ex_mk rr ?_))))
  rw [star_assoc]
  exact own_pur_mk rfl (G.eq (by ac_rfl))
theorem own_starW {B w : World} {R : Assn} {rows : List (List Value)} {L : List Hs} (G : Own B (starL hsA rows L * R) w) : Own B (starL hsW rows L * R) w := G.mono (star_mono (starL_mono (fun _ _ x k => hsW_of x k) rows L) (fun _ k => k))

/-! what a table holds: nothing, or something right -/
structure Sn.fine (t : Sn) : Prop where
  small : t.small
  okW : ∀ h ∈ t.hosts, ∀ r ∈ h.routes, ∀ c ∈ r.choices, okW c.weight = true
theorem fine_no : noSn.fine := ⟨⟨by decide, by decide, (fun _ h => by cases h), (fun _ h => by cases h), (fun _ h => by cases h), (fun _ h => by cases h)⟩, fun _ h => by cases h⟩
theorem fine_right {s : Sn} (h : rightR s = true) : s.fine := ⟨right_small h, fun x hx r hr c hc => by
  have h1 := (may_weigh (right_may h x hx r hr)).1
  unfold weighR at h1
  simp only [Bool.and_eq_true] at h1
  exact List.all_eq_true.1 h1.1.2 c.weight (List.mem_map.2 ⟨c, hc, rfl⟩)⟩
theorem fine_push {t s : Sn} (h : t.fine) : (if pushR t s then s else t).fine := by
  split
  · rename_i hp
    unfold pushR at hp
    simp only [Bool.and_eq_true] at hp
    exact fine_right hp.2
  · exact h
end Go.Proofs.YtjcpfldobiekbaaDoor
