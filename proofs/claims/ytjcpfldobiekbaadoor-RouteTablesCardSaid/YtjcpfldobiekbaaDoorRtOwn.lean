




/-
  A snapshot of the call's own: all its slices, each by itself.
-/
import Derived.Test.YtjcpfldobiekbaaDoorRtRight
import Derived.Test.YtjcpfldobiekbaaDoorMixF
namespace Go.Proofs.YtjcpfldobiekbaaDoor
open Go.RowKit Go.Sl Go.ChangeShapes

section
variable {α : Type} {f : List Value → α → Assn} {B w : World} {A R : Assn}

def starL (f : List Value → α → Assn) : List (List Value) → List α → Assn
  | c :: cs, a :: ls => f c a * starL f cs ls
  | [], [] => emp
  | _, _ => pur False

theorem starL_snoc : ∀ {cs : List (List Value)} {ls : List α} {c : List Value} {a : α}, cs.length = ls.length → starL f (cs ++ [c]) (ls ++ [a]) = starL f cs ls * f c a
  | [], [], c, a, _ => by simp only [List.nil_append, starL]; ac_rfl
  | c0 :: cs, a0 :: ls, c, a, h => by
    rw [List.cons_append, List.cons_append]
    unfold starL
    rw [starL_snoc (by simpa using h), star_assoc]
  | [], _ :: _, _, _, h => by simp at h
  | _ :: _, [], _, _, h => by simp at h
theorem starL_len : ∀ {cs : List (List Value)} {ls : List α} {R : Assn}, Own B (starL f cs ls * R) w → cs.length = ls.length
  | [], [], _, _ => rfl
  | c :: cs, a :: ls, R, h => by
    unfold starL at h
    rw [List.length_cons, List.length_cons, starL_len (R := f c a * R) (h.eq (by ac_rfl))]
  | [], _ :: _, _, h => (own_pur h).1.elim
  | _ :: _, [], _, h => (own_pur h).1.elim
/-- one of them comes to the front -/
theorem starL_at : ∀ {cs : List (List Value)} {ls : List α} {R : Assn} {i : Nat} {a : α}, Own B (starL f cs ls * R) w → ls[i]? = some a → ∃ c, cs[i]? = some c ∧ ∃ R', starL f cs ls = f c a * R' ∧ ∀ c' a', starL f (cs.set i c') (ls.set i a') = f c' a' * R'
  | [], [], _, i, a, _, hi => by simp at hi
  | c :: cs, b :: ls, R, 0, a, h, hi => by
    simp at hi
    subst hi
    exact ⟨c, rfl, starL f cs ls, rfl, fun _ _ => rfl⟩
  | c :: cs, b :: ls, R, i + 1, a, h, hi => by
    unfold starL at h
    obtain ⟨d, h1, R', h2, h3⟩ := starL_at (R := f c b * R) (i := i) (a := a) (h.eq (by ac_rfl)) (by simpa using hi)
    refine ⟨d, by simpa using h1, f c b * R', ?_, fun c' a' => ?_⟩
    · show f c b * starL f cs ls = _
      rw [h2]; ac_rfl
    · show f c b * starL f (cs.set i c') (ls.set i a') = _
      rw [h3]; ac_rfl
  | [], _ :: _, _, _, _, h, _ => (own_pur h).1.elim
  | _ :: _, [], _, _, _, h, _ => (own_pur h).1.elim

theorem flat_len {sz : Nat} {rows : List (List Value)} (h : ∀ c ∈ rows, c.length = sz) : rows.flatten.length = rows.length * sz := by
  induction rows with
  | nil => simp
  | cons c rows ih =>
    rw [List.flatten_cons, List.length_append, h c (by simp), ih (fun d hd => h d (by simp [hd])), List.length_cons, Nat.succ_mul]
    omega
theorem flat_at {sz : Nat} : ∀ {rows : List (List Value)} {i : Nat} {c : List Value}, (∀ c ∈ rows, c.length = sz) → rows[i]? = some c → (rows.flatten.drop (i * sz)).take sz = c
  | [], i, c, _, hi => by simp at hi
  | d :: rows, 0, c, h, hi => by
    simp at hi
    subst hi
    rw [Nat.zero_mul, List.drop_zero, List.flatten_cons]
    exact List.take_left' (h d (by simp))
  | d :: rows, i + 1, c, h, hi => by
    have hd := h d (by simp)
    have e : (i + 1) * sz = d.length + i * sz := by rw [hd, Nat.succ_mul]; omega
    rw [List.flatten_cons, e, ← List.drop_drop, List.drop_left]
    exact flat_at (fun x hx => h x (by simp [hx])) (by simpa using hi)
theorem flat_set {sz : Nat} : ∀ {rows : List (List Value)} {i : Nat} {c : List Value}, (∀ c ∈ rows, c.length = sz) → c.length = sz → i < rows.length → (rows.set i c).flatten = rows.flatten.take (i * sz) ++ c ++ rows.flatten.drop (i * sz + sz)
  | [], i, c, _, _, hi => by simp at hi
  | d :: rows, 0, c, h, hc, hi => by
    have hd := h d (by simp)
    rw [List.set_cons_zero, List.flatten_cons, List.flatten_cons, Nat.zero_mul, List.take_zero, List.nil_append, Nat.zero_add, ← hd, List.drop_left]
  | d :: rows, i + 1, c, h, hc, hi => by
    have hd := h d (by simp)
    have e : (i + 1) * sz = d.length + i * sz := by rw [hd, Nat.succ_mul]; omega
    have e1 : (d ++ rows.flatten).take (d.length + i * sz) = d ++ rows.flatten.take (i * sz) := by
      rw [List.take_append, List.take_of_length_le (by omega), show d.length + i * sz - d.length = i * sz by omega]
    have e2 : (d ++ rows.flatten).drop (d.length + i * sz + sz) = rows.flatten.drop (i * sz + sz) := by
      rw [List.drop_append, List.drop_eq_nil_of_le (by omega), show d.length + i * sz + sz - d.length = i * sz + sz by omega, List.nil_append]
    rw [List.set_cons_succ, List.flatten_cons, List.flatten_cons, flat_set (fun x hx => h x (by simp [hx])) hc (by simpa using hi), e, e1, e2]
    simp
end

def rtCs (r : Rt) (vf vc : Value) : List Value := [str r.path, .int .i64 r.how, str r.service, str r.method, vf, vc, .int .i64 r.ticks]
def rtA (cs : List Value) (r : Rt) : Assn := ex fun vf => ex fun vc => pur (cs = rtCs r vf vc) * (sl 4 vf r.fields.length (mrs r.fields) * sl 2 vc r.choices.length (chs r.choices))
def hsA (cs : List Value) (h : Hs) : Assn := ex fun vn => ex fun vr => ex fun rows => pur (cs = [vn, vr] ∧ ∀ c ∈ rows, c.length = 7) * (sl 1 vn h.names.length (strs h.names) * (sl 7 vr h.routes.length rows.flatten * starL rtA rows h.routes))
def snA (cs : List Value) (s : Sn) : Assn := ex fun vc => ex fun vh => ex fun rows => pur (cs = [.int .i64 s.version, vc, vh] ∧ ∀ c ∈ rows, c.length = 2) * (sl 1 vc s.clusters.length (strs s.clusters) * (sl 2 vh s.hosts.length rows.flatten * starL hsA rows s.hosts))

section
variable {B w : World} {A R : Assn} {cs : List Value}
theorem own_rtA {r : Rt} (h : Own B (rtA cs r * R) w) : ∃ vf vc, cs = rtCs r vf vc ∧ Own B (sl 4 vf r.fields.length (mrs r.fields) * (sl 2 vc r.choices.length (chs r.choices) * R)) w := by
  obtain ⟨vf, h⟩ := own_ex h
  obtain ⟨vc, h⟩ := own_ex h
  obtain ⟨e, h⟩ := own_pur (h.eq (star_assoc _ _ _))
  exact ⟨vf, vc, e, h.eq (star_assoc _ _ _)⟩
theorem own_rtA_mk {r : Rt} {vf vc : Value} (h : Own B (sl 4 vf r.fields.length (mrs r.fields) * (sl 2 vc r.choices.length (chs r.choices) * R)) w) : Own B (rtA (rtCs r vf vc) r * R) w := by
  refine own_ex_mk vf (own_ex_mk vc ?_)
  rw [star_assoc]
  exact own_pur_mk rfl (h.eq (star_assoc _ _ _).symm)
theorem own_hsA {h0 : Hs} (h : Own B (hsA cs h0 * R) w) : ∃ vn vr rows, cs = [vn, vr] ∧ (∀ c ∈ rows, c.length = 7) ∧ Own B (sl 1 vn h0.names.length (strs h0.names) * (sl 7 vr h0.routes.length rows.flatten * (starL rtA rows h0.routes * R))) w := by
  obtain ⟨vn, h⟩ := own_ex h
  obtain ⟨vr, h⟩ := own_ex h
  obtain ⟨rows, h⟩ := own_ex h
  obtain ⟨⟨e1, e2⟩, h⟩ := own_pur (h.eq (star_assoc _ _ _))
  exact ⟨vn, vr, rows, e1, e2, h.eq (by ac_rfl)⟩
theorem own_hsA_mk {h0 : Hs} {vn vr : Value} {rows : List (List Value)} (h7 : ∀ c ∈ rows, c.length = 7) (h : Own B (sl 1 vn h0.names.length (strs h0.names) * (sl 7 vr h0.routes.length rows.flatten * (starL rtA rows h0.routes * R))) w) : Own B (hsA [vn, vr] h0 * R) w := by
  refine own_ex_mk vn (own_ex_mk vr (own_ex_mk rows ?_))
  rw [star_assoc]
  exact own_pur_mk ⟨rfl, h7⟩ (h.eq (by ac_rfl))
theorem own_snA {s : Sn} (h : Own B (snA cs s * R) w) : ∃ vc vh rows, cs = [.int .i64 s.version, vc, vh] ∧ (∀ c ∈ rows, c.length = 2) ∧ Own B (sl 1 vc s.clusters.length (strs s.clusters) * (sl 2 vh s.hosts.length rows.flatten * (starL hsA rows s.hosts * R))) w := by
  obtain ⟨vn, h⟩ := own_ex h
  obtain ⟨vr, h⟩ := own_ex h
  obtain ⟨rows, h⟩ := own_ex h
  obtain ⟨⟨e1, e2⟩, h⟩ := own_pur (h.eq (star_assoc _ _ _))
  exact ⟨vn, vr, rows, e1, e2, h.eq (by ac_rfl)⟩
theorem own_snA_mk {s : Sn} {vc vh : Value} {rows : List (List Value)} (h2 : ∀ c ∈ rows, c.length = 2) (h : Own B (sl 1 vc s.clusters.length (strs s.clusters) * (sl 2 vh s.hosts.length rows.flatten * (starL hsA rows s.hosts * R))) w) : Own B (snA [.int .i64 s.version, vc, vh] s * R) w := by
  refine own_ex_mk vc (own_ex_mk vh (own_ex_mk rows ?_))
  rw [star_assoc]
  exact own_pur_mk ⟨rfl, h2⟩ (h.eq (by ac_rfl))

/-! what is owned can be read -/
theorem rt_read {r : Rt} (h : Own B (rtA cs r * R) w) : rdRt w cs r := by
  obtain ⟨vf, vc, e, h2⟩ := own_rtA h
  exact ⟨vf, vc, e, own_rd h2, own_rd h2.right⟩
theorem list_read {α : Type} {f : List Value → α → Assn} {rel : World → List Value → α → Prop} {sz : Nat} {rows : List (List Value)} {L : List α} (h : Own B (starL f rows L * R) w) (hr : ∀ c a R, Own B (f c a * R) w → rel w c a) (hz : ∀ c ∈ rows, c.length = sz) : rdL rel sz w rows.flatten L := by
  refine ⟨by rw [flat_len hz, starL_len h], fun i a hi => ?_⟩
  obtain ⟨c, hc, R', e, _⟩ := starL_at h hi
  rw [flat_at hz hc]
  exact hr c a (R' * R) (h.eq (by rw [e]; ac_rfl))
theorem hs_read {r : Hs} (h : Own B (hsA cs r * R) w) : rdHs w cs r := by
  obtain ⟨vn, vr, rows, e, h7, h2⟩ := own_hsA h
  exact ⟨vn, vr, rows.flatten, e, own_rd h2, own_rd h2.right, list_read h2.right.right (fun _ _ _ h => rt_read h) h7⟩
theorem sn_read {s : Sn} (h : Own B (snA cs s * R) w) : rdSn w cs s := by
  obtain ⟨vc, vh, rows, e, h2, h3⟩ := own_snA h
  exact ⟨vc, vh, rows.flatten, e, own_rd h3, own_rd h3.right, list_read h3.right.right (fun _ _ _ h => hs_read h) h2⟩

/-- what a call made, beside what was there -/
theorem own_join {w' : World} {X : Assn} (h : Own B A w) (k : Own w X w') : Own B (X * A) w' := by
  have hk := (own_kept h k.1).1
  obtain ⟨hb', y, hy, ky⟩ := k
  obtain ⟨hb, x, hx, kx⟩ := h
  have hold : ∀ b o, x b = some o → b < w.heap.size := fun b o e => (Array.getElem?_eq_some_iff.1 (kx b o e).2).1
  refine ⟨hk, Hp.un y x, ⟨y, x, fun b => ?_, rfl, hy, hx⟩, fun b o e => ?_⟩
  · cases ex : x b with
    | none => exact .inr rfl
    | some o =>
      left
      cases ey : y b with
      | none => rfl
      | some o' =>
        have := hold b o ex
        have := (ky b o' ey).1
        omega
  · cases ey : y b with
    | some o' =>
      simp only [Hp.un, ey, Option.some_or] at e
      obtain rfl := Option.some.inj e
      have := ky b _ ey
      have := hb.size
      exact ⟨by omega, (ky b _ ey).2⟩
    | none =>
      simp only [Hp.un, ey, Option.none_or] at e
      have h1 := kx b o e
      exact ⟨h1.1, by rw [hb'.block b (hold b o e)]; exact h1.2⟩
end
end Go.Proofs.YtjcpfldobiekbaaDoor
