




/-
  Snapshots as they lie in memory, and as they come in.
-/
import Derived.Test.YtjcpfldobiekbaaDoorRtP
import Derived.Test.YtjcpfldobiekbaaDoorMtG2
import Derived.Test.YtjcpfldobiekbaaDoorRdz
namespace Go.Proofs.YtjcpfldobiekbaaDoor
open Go.RowKit Go.Sl Go.ChangeShapes

def Ch.cs (c : Ch) : List Value := [str c.cluster, .float .f64 c.weight]
def chs (l : List Ch) : List Value := l.flatMap Ch.cs
theorem chs_len (l : List Ch) : (chs l).length = l.length * 2 := by induction l with | nil => rfl | cons f l ih => simp [chs, Ch.cs] at ih ⊢; omega
theorem chs_app (l r : List Ch) : chs l ++ chs r = chs (l ++ r) := by simp [chs]
theorem chs_at {l : List Ch} {k : Nat} {c : Ch} (h : l[k]? = some c) : ((chs l).drop (k * 2)).take 2 = [str c.cluster, .float .f64 c.weight] := by
  induction l generalizing k with
  | nil => simp at h
  | cons f l ih =>
    cases k with
    | zero => simp at h; subst h; simp [chs, Ch.cs]
    | succ k =>
      have := ih (by simpa using h)
      simp only [chs, List.flatMap_cons, Ch.cs] at this ⊢
      rw [Nat.succ_mul, Nat.add_comm, ← List.drop_drop]
      simpa using this
def strs (l : List Txt) : List Value := l.map str
theorem strs_len (l : List Txt) : (strs l).length = l.length := by simp [strs]
theorem strs_app (l r : List Txt) : strs l ++ strs r = strs (l ++ r) := by simp [strs]
theorem strs_at {l : List Txt} {j : Nat} {x : Txt} (h : l[j]? = some x) : (strs l)[j]? = some (str x) := by simp [strs, h]
def flts (l : List Nat) : List Value := l.map fun x => .float .f64 x
theorem flts_len (l : List Nat) : (flts l).length = l.length := by simp [flts]
theorem flts_app (l r : List Nat) : flts l ++ flts r = flts (l ++ r) := by simp [flts]
theorem flts_at {l : List Nat} {j : Nat} {x : Nat} (h : l[j]? = some x) : (flts l)[j]? = some (.float .f64 x) := by simp [flts, h]

/-- rows of cells, each of which is one of L's -/
def rdL {α : Type} (f : World → List Value → α → Prop) (sz : Nat) (w : World) (xs : List Value) (L : List α) : Prop := xs.length = L.length * sz ∧ ∀ (i : Nat) a, L[i]? = some a → f w ((xs.drop (i * sz)).take sz) a

def rdRt (w : World) (cs : List Value) (r : Rt) : Prop :=
  ∃ vf vc, cs = [str r.path, .int .i64 r.how, str r.service, str r.method, vf, vc, .int .i64 r.ticks] ∧ rd w 4 vf r.fields.length (mrs r.fields) ∧ rd w 2 vc r.choices.length (chs r.choices)
def rdHs (w : World) (cs : List Value) (h : Hs) : Prop :=
  ∃ vn vr xs, cs = [vn, vr] ∧ rd w 1 vn h.names.length (strs h.names) ∧ rd w 7 vr h.routes.length xs ∧ rdL rdRt 7 w xs h.routes
def rdSn (w : World) (cs : List Value) (s : Sn) : Prop :=
  ∃ vc vh xs, cs = [.int .i64 s.version, vc, vh] ∧ rd w 1 vc s.clusters.length (strs s.clusters) ∧ rd w 2 vh s.hosts.length xs ∧ rdL rdHs 2 w xs s.hosts

section
variable {w w' : World} {cs : List Value}
theorem rd_next {sz n : Nat} {v : Value} {xs : List Value} (h : rd w sz v n xs) (hb : Below w.heap.size w w') : rd w' sz v n xs := h.below (fun _ hc => World.block_lt_of_cell? w _ (Option.eq_some_of_isSome hc)) hb
theorem rdL.next {α : Type} {f : World → List Value → α → Prop} (hf : ∀ cs a, f w cs a → f w' cs a) {sz : Nat} {xs : List Value} {L : List α} (h : rdL f sz w xs L) : rdL f sz w' xs L := ⟨h.1, fun i a hi => hf _ _ (h.2 i a hi)⟩
theorem rdRt.next {r : Rt} (h : rdRt w cs r) (hb : Below w.heap.size w w') : rdRt w' cs r := by
  obtain ⟨vf, vc, e, h1, h2⟩ := h
  exact ⟨vf, vc, e, rd_next h1 hb, rd_next h2 hb⟩
theorem rdHs.next {r : Hs} (h : rdHs w cs r) (hb : Below w.heap.size w w') : rdHs w' cs r := by
  obtain ⟨vn, vr, xs, e, h1, h2, h3⟩ := h
  exact ⟨vn, vr, xs, e, rd_next h1 hb, rd_next h2 hb, h3.next fun _ _ h => h.next hb⟩
theorem rdSn.next {r : Sn} (h : rdSn w cs r) (hb : Below w.heap.size w w') : rdSn w' cs r := by
  obtain ⟨vn, vr, xs, e, h1, h2, h3⟩ := h
  exact ⟨vn, vr, xs, e, rd_next h1 hb, rd_next h2 hb, h3.next fun _ _ h => h.next hb⟩
end

/-! ### no string of it is longer than may be -/
def Mr.ok (m : Mr) : Prop := m.name.length ≤ 140737488351232 ∧ m.value.length ≤ 140737488351232
def Ch.ok (c : Ch) : Prop := c.cluster.length ≤ 9223372036854775807
structure Rt.ok (r : Rt) : Prop where
  path : r.path.length ≤ 140737488351232
  service : r.service.length ≤ 140737488351232
  method : r.method.length ≤ 140737488351232
  fields : ∀ m ∈ r.fields, m.ok
  choices : ∀ c ∈ r.choices, c.ok
structure Hs.ok (h : Hs) : Prop where
  names : ∀ n ∈ h.names, n.length ≤ 140737488351232
  routes : ∀ r ∈ h.routes, r.ok
structure Sn.ok (s : Sn) : Prop where
  clusters : ∀ n ∈ s.clusters, n.length ≤ 140737488351232
  hosts : ∀ h ∈ s.hosts, h.ok

/-! ### what comes in -/
section
theorem fieldZ {H : Type} {enc : TypeId × Value → H} {W : World} {cs : List Value} {d : DataW H} (h : RdZ enc Tryd.prog W 47 cs d) :
    ∃ (x0 : List UInt8) (x1 : List UInt8) (x2 : Bool), cs = [str x0, str x1, .bool x2] ∧ x0.length ≤ 140737488351232 ∧ x1.length ≤ 140737488351232 ∧ True := by
  have hl := (rdc_struct Tryd.underlying47 h.1).1
  obtain ⟨e0, g0⟩ := rdz_field Tryd.underlying47 h 0 rfl (ft := 9) rfl (o := 0) rfl (c := 1) (by kernel_rfl)
  obtain ⟨x0, q0, b0⟩ := rdz_string Tryd.underlying9 g0
  obtain ⟨e1, g1⟩ := rdz_field Tryd.underlying47 h 1 rfl (ft := 9) rfl (o := 1) rfl (c := 1) (by kernel_rfl)
  obtain ⟨x1, q1, b1⟩ := rdz_string Tryd.underlying9 g1
  obtain ⟨e2, g2⟩ := rdz_field Tryd.underlying47 h 2 rfl (ft := 4) rfl (o := 2) rfl (c := 1) (by kernel_rfl)
  obtain ⟨x2, q2⟩ := rdc_bool Tryd.underlying4 g2.1
  refine ⟨x0, x1, x2, ?_, b0, b1, trivial⟩
  have hl' : cs.length = 3 := hl.trans (by kernel_rfl)
  refine list_of_cells hl' [str x0, str x1, .bool x2] rfl ?_
  intro i hi
  match i, hi with
  | 0, _ => exact take_one q0
  | 1, _ => exact take_one q1
  | 2, _ => exact take_one q2
  | i + 3, hi => exact absurd hi (by omega)
theorem matcherZ {H : Type} {enc : TypeId × Value → H} {W : World} {cs : List Value} {d : DataW H} (h : RdZ enc Tryd.prog W 45 cs d) :
    ∃ (x0 : List UInt8) (x1 : List UInt8) (x2 : Int) (x3 : Bool), cs = [str x0, str x1, .int .i64 x2, .bool x3] ∧ x0.length ≤ 140737488351232 ∧ x1.length ≤ 140737488351232 ∧ (-9223372036854775808 ≤ x2 ∧ x2 ≤ 9223372036854775807) ∧ True := by
  have hl := (rdc_struct Tryd.underlying45 h.1).1
  obtain ⟨e0, g0⟩ := rdz_field Tryd.underlying45 h 0 rfl (ft := 9) rfl (o := 0) rfl (c := 1) (by kernel_rfl)
  obtain ⟨x0, q0, b0⟩ := rdz_string Tryd.underlying9 g0
  obtain ⟨e1, g1⟩ := rdz_field Tryd.underlying45 h 1 rfl (ft := 9) rfl (o := 1) rfl (c := 1) (by kernel_rfl)
  obtain ⟨x1, q1, b1⟩ := rdz_string Tryd.underlying9 g1
  obtain ⟨e2, g2⟩ := rdz_field Tryd.underlying45 h 2 rfl (ft := 3) rfl (o := 2) rfl (c := 1) (by kernel_rfl)
  obtain ⟨x2, q2, b2⟩ := rdc_i64 Tryd.underlying3 g2.1
  obtain ⟨e3, g3⟩ := rdz_field Tryd.underlying45 h 3 rfl (ft := 4) rfl (o := 3) rfl (c := 1) (by kernel_rfl)
  obtain ⟨x3, q3⟩ := rdc_bool Tryd.underlying4 g3.1
  refine ⟨x0, x1, x2, x3, ?_, b0, b1, b2, trivial⟩
  have hl' : cs.length = 4 := hl.trans (by kernel_rfl)
  refine list_of_cells hl' [str x0, str x1, .int .i64 x2, .bool x3] rfl ?_
  intro i hi
  match i, hi with
  | 0, _ => exact take_one q0
  | 1, _ => exact take_one q1
  | 2, _ => exact take_one q2
  | 3, _ => exact take_one q3
  | i + 4, hi => exact absurd hi (by omega)
theorem choiceZ {H : Type} {enc : TypeId × Value → H} {W : World} {cs : List Value} {d : DataW H} (h : RdZ enc Tryd.prog W 38 cs d) :
    ∃ (x0 : List UInt8) (x1 : Nat), cs = [str x0, .float .f64 x1] ∧ x0.length ≤ 140737488351232 ∧ True := by
  have hl := (rdc_struct Tryd.underlying38 h.1).1
  obtain ⟨e0, g0⟩ := rdz_field Tryd.underlying38 h 0 rfl (ft := 9) rfl (o := 0) rfl (c := 1) (by kernel_rfl)
  obtain ⟨x0, q0, b0⟩ := rdz_string Tryd.underlying9 g0
  obtain ⟨e1, g1⟩ := rdz_field Tryd.underlying38 h 1 rfl (ft := 36) rfl (o := 1) rfl (c := 1) (by kernel_rfl)
  obtain ⟨x1, q1⟩ := rdc_float Tryd.underlying36 g1.1
  refine ⟨x0, x1, ?_, b0, trivial⟩
  have hl' : cs.length = 2 := hl.trans (by kernel_rfl)
  refine list_of_cells hl' [str x0, .float .f64 x1] rfl ?_
  intro i hi
  match i, hi with
  | 0, _ => exact take_one q0
  | 1, _ => exact take_one q1
  | i + 2, hi => exact absurd hi (by omega)
theorem routeZ {H : Type} {enc : TypeId × Value → H} {W : World} {cs : List Value} {d : DataW H} (h : RdZ enc Tryd.prog W 42 cs d) :
    ∃ (x0 : List UInt8) (x1 : Int) (x2 : List UInt8) (x3 : List UInt8) (x4 : Value) (x5 : Value) (x6 : Int), cs = [str x0, .int .i64 x1, str x2, str x3, x4, x5, .int .i64 x6] ∧ x0.length ≤ 140737488351232 ∧ (-9223372036854775808 ≤ x1 ∧ x1 ≤ 9223372036854775807) ∧ x2.length ≤ 140737488351232 ∧ x3.length ≤ 140737488351232 ∧ (∃ d, RdZ enc Tryd.prog W 40 [x4] d) ∧ (∃ d, RdZ enc Tryd.prog W 39 [x5] d) ∧ (-9223372036854775808 ≤ x6 ∧ x6 ≤ 9223372036854775807) := by
  have hl := (rdc_struct Tryd.underlying42 h.1).1
  obtain ⟨e0, g0⟩ := rdz_field Tryd.underlying42 h 0 rfl (ft := 9) rfl (o := 0) rfl (c := 1) (by kernel_rfl)
  obtain ⟨x0, q0, b0⟩ := rdz_string Tryd.underlying9 g0
  obtain ⟨e1, g1⟩ := rdz_field Tryd.underlying42 h 1 rfl (ft := 3) rfl (o := 1) rfl (c := 1) (by kernel_rfl)
  obtain ⟨x1, q1, b1⟩ := rdc_i64 Tryd.underlying3 g1.1
  obtain ⟨e2, g2⟩ := rdz_field Tryd.underlying42 h 2 rfl (ft := 9) rfl (o := 2) rfl (c := 1) (by kernel_rfl)
  obtain ⟨x2, q2, b2⟩ := rdz_string Tryd.underlying9 g2
  obtain ⟨e3, g3⟩ := rdz_field Tryd.underlying42 h 3 rfl (ft := 9) rfl (o := 3) rfl (c := 1) (by kernel_rfl)
  obtain ⟨x3, q3, b3⟩ := rdz_string Tryd.underlying9 g3
  obtain ⟨e4, g4⟩ := rdz_field Tryd.underlying42 h 4 rfl (ft := 40) rfl (o := 4) rfl (c := 1) (by kernel_rfl)
  obtain ⟨x4, q4⟩ := rdz_slice_cell Tryd.underlying40 g4; rw [q4] at g4
  obtain ⟨e5, g5⟩ := rdz_field Tryd.underlying42 h 5 rfl (ft := 39) rfl (o := 5) rfl (c := 1) (by kernel_rfl)
  obtain ⟨x5, q5⟩ := rdz_slice_cell Tryd.underlying39 g5; rw [q5] at g5
  obtain ⟨e6, g6⟩ := rdz_field Tryd.underlying42 h 6 rfl (ft := 3) rfl (o := 6) rfl (c := 1) (by kernel_rfl)
  obtain ⟨x6, q6, b6⟩ := rdc_i64 Tryd.underlying3 g6.1
  refine ⟨x0, x1, x2, x3, x4, x5, x6, ?_, b0, b1, b2, b3, ⟨_, g4⟩, ⟨_, g5⟩, b6⟩
  have hl' : cs.length = 7 := hl.trans (by kernel_rfl)
  refine list_of_cells hl' [str x0, .int .i64 x1, str x2, str x3, x4, x5, .int .i64 x6] rfl ?_
  intro i hi
  match i, hi with
  | 0, _ => exact take_one q0
  | 1, _ => exact take_one q1
  | 2, _ => exact take_one q2
  | 3, _ => exact take_one q3
  | 4, _ => exact take_one q4
  | 5, _ => exact take_one q5
  | 6, _ => exact take_one q6
  | i + 7, hi => exact absurd hi (by omega)
theorem hostZ {H : Type} {enc : TypeId × Value → H} {W : World} {cs : List Value} {d : DataW H} (h : RdZ enc Tryd.prog W 33 cs d) :
    ∃ (x0 : Value) (x1 : Value), cs = [x0, x1] ∧ (∃ d, RdZ enc Tryd.prog W 22 [x0] d) ∧ (∃ d, RdZ enc Tryd.prog W 31 [x1] d) := by
  have hl := (rdc_struct Tryd.underlying33 h.1).1
  obtain ⟨e0, g0⟩ := rdz_field Tryd.underlying33 h 0 rfl (ft := 22) rfl (o := 0) rfl (c := 1) (by kernel_rfl)
  obtain ⟨x0, q0⟩ := rdz_slice_cell Tryd.underlying22 g0; rw [q0] at g0
  obtain ⟨e1, g1⟩ := rdz_field Tryd.underlying33 h 1 rfl (ft := 31) rfl (o := 1) rfl (c := 1) (by kernel_rfl)
  obtain ⟨x1, q1⟩ := rdz_slice_cell Tryd.underlying31 g1; rw [q1] at g1
  refine ⟨x0, x1, ?_, ⟨_, g0⟩, ⟨_, g1⟩⟩
  have hl' : cs.length = 2 := hl.trans (by kernel_rfl)
  refine list_of_cells hl' [x0, x1] rfl ?_
  intro i hi
  match i, hi with
  | 0, _ => exact take_one q0
  | 1, _ => exact take_one q1
  | i + 2, hi => exact absurd hi (by omega)
theorem snapZ {H : Type} {enc : TypeId × Value → H} {W : World} {cs : List Value} {d : DataW H} (h : RdZ enc Tryd.prog W 25 cs d) :
    ∃ (x0 : Int) (x1 : Value) (x2 : Value), cs = [.int .i64 x0, x1, x2] ∧ (-9223372036854775808 ≤ x0 ∧ x0 ≤ 9223372036854775807) ∧ (∃ d, RdZ enc Tryd.prog W 22 [x1] d) ∧ (∃ d, RdZ enc Tryd.prog W 23 [x2] d) := by
  have hl := (rdc_struct Tryd.underlying25 h.1).1
  obtain ⟨e0, g0⟩ := rdz_field Tryd.underlying25 h 0 rfl (ft := 3) rfl (o := 0) rfl (c := 1) (by kernel_rfl)
  obtain ⟨x0, q0, b0⟩ := rdc_i64 Tryd.underlying3 g0.1
  obtain ⟨e1, g1⟩ := rdz_field Tryd.underlying25 h 1 rfl (ft := 22) rfl (o := 1) rfl (c := 1) (by kernel_rfl)
  obtain ⟨x1, q1⟩ := rdz_slice_cell Tryd.underlying22 g1; rw [q1] at g1
  obtain ⟨e2, g2⟩ := rdz_field Tryd.underlying25 h 2 rfl (ft := 23) rfl (o := 2) rfl (c := 1) (by kernel_rfl)
  obtain ⟨x2, q2⟩ := rdz_slice_cell Tryd.underlying23 g2; rw [q2] at g2
  refine ⟨x0, x1, x2, ?_, b0, ⟨_, g1⟩, ⟨_, g2⟩⟩
  have hl' : cs.length = 3 := hl.trans (by kernel_rfl)
  refine list_of_cells hl' [.int .i64 x0, x1, x2] rfl ?_
  intro i hi
  match i, hi with
  | 0, _ => exact take_one q0
  | 1, _ => exact take_one q1
  | 2, _ => exact take_one q2
  | i + 3, hi => exact absurd hi (by omega)
variable {H : Type} {enc : TypeId × Value → H} {W : World} {cs : List Value} {v : Value} {d : DataW H}
theorem ms_in (h : RdZ enc Tryd.prog W 40 [v] d) : ∃ L : List Mr, rd W 4 v L.length (mrs L) ∧ ∀ m ∈ L, m.ok := by
  obtain ⟨_, n, xs, e, hr, -, hel⟩ := rdz_slice (sz := 4) Tryd.underlying40 (by kernel_rfl) rfl h
  obtain rfl := (List.cons.inj e).1
  obtain ⟨L, rfl, rfl, hp⟩ := cells_list (α := Mr) (cs := Mr.cs) (Pr := Mr.ok) n xs hr.len (fun i hi => by
    obtain ⟨_, hd⟩ := hel i hi
    obtain ⟨x0, x1, x2, x3, e, b0, b1, b2, _⟩ := matcherZ hd
    exact ⟨⟨x0, x1, x2, x3⟩, ⟨b0, b1⟩, e⟩)
  exact ⟨L, hr, hp⟩
theorem chs_in (h : RdZ enc Tryd.prog W 39 [v] d) : ∃ L : List Ch, rd W 2 v L.length (chs L) ∧ ∀ m ∈ L, m.ok := by
  obtain ⟨_, n, xs, e, hr, -, hel⟩ := rdz_slice (sz := 2) Tryd.underlying39 (by kernel_rfl) rfl h
  obtain rfl := (List.cons.inj e).1
  obtain ⟨L, rfl, rfl, hp⟩ := cells_list (α := Ch) (cs := Ch.cs) (Pr := Ch.ok) n xs hr.len (fun i hi => by
    obtain ⟨_, hd⟩ := hel i hi
    obtain ⟨x0, x1, e, b0, _⟩ := choiceZ hd
    exact ⟨⟨x0, x1⟩, Nat.le_trans b0 (by decide), e⟩)
  exact ⟨L, hr, hp⟩
theorem strs_in (h : RdZ enc Tryd.prog W 22 [v] d) : ∃ L : List Txt, rd W 1 v L.length (strs L) ∧ ∀ m ∈ L, m.length ≤ 140737488351232 := by
  obtain ⟨_, n, xs, e, hr, -, hel⟩ := rdz_slice (sz := 1) Tryd.underlying22 (by kernel_rfl) rfl h
  obtain rfl := (List.cons.inj e).1
  obtain ⟨L, rfl, hx, hp⟩ := cells_list (α := Txt) (cs := fun l => [str l]) (Pr := fun l => l.length ≤ 140737488351232) n xs hr.len (fun i hi => by
    obtain ⟨_, hd⟩ := hel i hi
    obtain ⟨l, e, b⟩ := rdz_string Tryd.underlying9 hd
    exact ⟨l, b, e⟩)
  have : xs = strs L := by
    rw [hx]
    clear hx hr hel hp
    induction L with
    | nil => rfl
    | cons x L ih => rw [List.flatMap_cons, ih]; rfl
  rw [this] at hr
  exact ⟨L, hr, hp⟩

/-- a list of those whose cells read -/
theorem list_in {α : Type} {sz : Nat} {f : World → List Value → α → Prop} {Pr : α → Prop} : ∀ (n : Nat) (xs : List Value), xs.length = n * sz → (∀ i, i < n → ∃ a, Pr a ∧ f W ((xs.drop (i * sz)).take sz) a) → ∃ L : List α, L.length = n ∧ rdL f sz W xs L ∧ ∀ a ∈ L, Pr a := by
  intro n
  induction n with
  | zero => intro xs hx _; exact ⟨[], rfl, ⟨by simp [hx], fun i a h => by simp at h⟩, fun a h => by cases h⟩
  | succ n ih =>
    intro xs hx hel
    have e1 : (n + 1) * sz = n * sz + sz := Nat.succ_mul n sz
    obtain ⟨a, p, ha⟩ := hel 0 (Nat.succ_pos _)
    rw [Nat.zero_mul, List.drop_zero] at ha
    have key : ∀ i, (xs.drop sz).drop (i * sz) = xs.drop ((i + 1) * sz) := fun i => by
      rw [List.drop_drop, show sz + i * sz = (i + 1) * sz by rw [Nat.succ_mul]; omega]
    obtain ⟨L, hL, hr, hp⟩ := ih (xs.drop sz) (by rw [List.length_drop, hx, e1]; omega) (fun i hi => by
      rw [key]
      exact hel (i + 1) (by omega))
    refine ⟨a :: L, by simp [hL], ⟨by rw [hx, List.length_cons, hL], fun i b hb => ?_⟩, fun b hb => ?_⟩
    · cases i with
      | zero =>
        simp at hb
        subst hb
        rw [Nat.zero_mul, List.drop_zero]
        exact ha
      | succ i =>
        rw [← key]
        exact hr.2 i b (by simpa using hb)
    · rcases List.mem_cons.1 hb with rfl | hb
      · exact p
      · exact hp b hb

theorem route_in (h : RdZ enc Tryd.prog W 42 cs d) : ∃ r : Rt, r.ok ∧ rdRt W cs r := by
  obtain ⟨x0, x1, x2, x3, x4, x5, x6, rfl, b0, b1, b2, b3, ⟨_, b4⟩, ⟨_, b5⟩, b6⟩ := routeZ h
  obtain ⟨F, hF, kF⟩ := ms_in b4
  obtain ⟨C, hC, kC⟩ := chs_in b5
  exact ⟨⟨x0, x1, x2, x3, F, C, x6⟩, ⟨b0, b2, b3, kF, kC⟩, x4, x5, rfl, hF, hC⟩
theorem host_in (h : RdZ enc Tryd.prog W 33 cs d) : ∃ r : Hs, r.ok ∧ rdHs W cs r := by
  obtain ⟨x0, x1, rfl, ⟨_, b0⟩, ⟨_, b1⟩⟩ := hostZ h
  obtain ⟨N, hN, kN⟩ := strs_in b0
  obtain ⟨_, n, xs, e, hr, -, hel⟩ := rdz_slice (sz := 7) Tryd.underlying31 (by kernel_rfl) rfl b1
  obtain rfl := (List.cons.inj e).1
  obtain ⟨R, rfl, hR, kR⟩ := list_in (W := W) (f := rdRt) (Pr := Rt.ok) n xs hr.len fun i hi => by obtain ⟨_, hd⟩ := hel i hi; exact route_in hd
  exact ⟨⟨N, R⟩, ⟨kN, kR⟩, x0, x1, xs, rfl, hN, hr, hR⟩
theorem snap_in (h : RdZ enc Tryd.prog W 25 cs d) : ∃ r : Sn, r.ok ∧ rdSn W cs r ∧ -9223372036854775808 ≤ r.version ∧ r.version ≤ 9223372036854775807 := by
  obtain ⟨x0, x1, x2, rfl, b, ⟨_, b0⟩, ⟨_, b1⟩⟩ := snapZ h
  obtain ⟨N, hN, kN⟩ := strs_in b0
  obtain ⟨_, n, xs, e, hr, -, hel⟩ := rdz_slice (sz := 2) Tryd.underlying23 (by kernel_rfl) rfl b1
  obtain rfl := (List.cons.inj e).1
  obtain ⟨R, rfl, hR, kR⟩ := list_in (W := W) (f := rdHs) (Pr := Hs.ok) n xs hr.len fun i hi => by obtain ⟨_, hd⟩ := hel i hi; exact host_in hd
  exact ⟨⟨x0, N, R⟩, ⟨kN, kR⟩, ⟨x1, x2, xs, rfl, hN, hr, hR⟩, b⟩
theorem fsz_in (h : RdZ enc Tryd.prog W 26 [v] d) : ∃ L : List Fd, rd W 3 v L.length (fds L) ∧ ∀ f ∈ L, f.1.length ≤ 140737488351232 ∧ f.2.1.length ≤ 140737488351232 := by
  obtain ⟨_, n, xs, e, hr, -, hel⟩ := rdz_slice (sz := 3) Tryd.underlying26 (by kernel_rfl) rfl h
  obtain rfl := (List.cons.inj e).1
  obtain ⟨L, rfl, rfl, hp⟩ := cells_list (α := Fd) (cs := Fd.cs) (Pr := fun f => f.1.length ≤ 140737488351232 ∧ f.2.1.length ≤ 140737488351232) n xs hr.len (fun i hi => by
    obtain ⟨_, hd⟩ := hel i hi
    obtain ⟨x0, x1, x2, e, b0, b1, _⟩ := fieldZ hd
    exact ⟨(x0, x1, x2), ⟨b0, b1⟩, e⟩)
  exact ⟨L, hr, hp⟩
end
end Go.Proofs.YtjcpfldobiekbaaDoor
