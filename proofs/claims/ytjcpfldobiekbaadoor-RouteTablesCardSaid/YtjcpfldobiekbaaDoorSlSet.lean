




/-
  A cell, or an element, of an own slice of structs written.
-/
import Derived.Test.YtjcpfldobiekbaaDoorAuto2
namespace Go.Sl
open Go Go.RowKit Go.ChangeShapes Go.BigFrame

section
variable {P : Program} {B w : World} {A A' R : Assn} {ops : Array Oper} {Q : Exit → Act → World → Prop} {rest : List Oper} {o : Oper} {a : Act} {K : Act → World → Prop} {T : TypeId} {ad x : Operand} {b i n : Nat} {cs vs : List Value} {v : Value}

theorem exec_storeF {s : Addr} {cap n sz p : Nat} {xs : List Value} (h : Own B A w) [tk : TakeSl (.slice (some s) n cap) sz n xs A A'] (ho : o.op = .store T ad x) (ha' : evalO a ad = some (.pointer (some (s.add p)))) (hx' : evalO a x = some v) [hT : TyOne P T] (h1 : v.oneCell' = true) (hp : p < n * sz) :
    ∃ w', (execOp a.eval o).run P w = .ok .skip w' ∧ Own B (sl sz (.slice (some s) n cap) n (xs.set p v) * A') w' := by
  have h := h.eq tk.out
  rcases own_sl h with ⟨e1, _⟩ | ⟨b, off, cap', cs, e1, a1, a2, a3, a4, a5, hb⟩
  · cases e1
  · obtain ⟨rfl, rfl⟩ : s = ⟨b, off, none⟩ ∧ cap = cap' := by simpa using e1
    rw [Addr.add_lit] at ha'
    have hmul : n * sz ≤ cap * sz := Nat.mul_le_mul_right _ a1
    obtain ⟨w', hr, g⟩ := exec_store1 (P := P) hb ho ha' hx' h1 (by simp; omega)
    refine ⟨w', hr, own_sl_mk a1 a2 (by simpa using a3) (by simpa using a4) ?_ g⟩
    rw [← a5]
    apply List.ext_getElem?
    intro j
    simp only [List.getElem?_take, List.getElem?_drop, List.getElem?_set, List.length_take, List.length_drop]
    by_cases hj : p = j
    · subst hj
      have : p < min (n * sz) (cs.length - off) := by omega
      simp [this, show off + p < cs.length by omega, hp]
    · simp [hj]

theorem exec_storeE {s : Addr} {cap n sz k : Nat} {xs : List Value} (h : Own B A w) [tk : TakeSl (.slice (some s) n cap) sz n xs A A'] (ho : o.op = .store T ad x) (ha' : evalO a ad = some (.pointer (some (s.add (k * sz))))) (hx' : evalO a x = some (.agg vs.toArray)) [hT : TyS P T sz] (hl : vs.length = sz) (h1 : vs.all (·.oneCell') = true) (hk : k < n) :
    ∃ w', (execOp a.eval o).run P w = .ok .skip w' ∧ Own B (sl sz (.slice (some s) n cap) n (xs.take (k * sz) ++ vs ++ xs.drop (k * sz + sz)) * A') w' := by
  have h := h.eq tk.out
  rcases own_sl h with ⟨e1, _⟩ | ⟨b, off, cap', cs, e1, a1, a2, a3, a4, a5, hb⟩
  · cases e1
  · obtain ⟨rfl, rfl⟩ : s = ⟨b, off, none⟩ ∧ cap = cap' := by simpa using e1
    rw [Addr.add_lit] at ha'
    have hmul : n * sz ≤ cap * sz := Nat.mul_le_mul_right _ a1
    have hk2 : k * sz + sz ≤ n * sz := by rw [← Nat.succ_mul]; exact Nat.mul_le_mul_right _ hk
    obtain ⟨w', hr, g⟩ := exec_storeS (P := P) (n := sz) hb ho ha' hx' hl (by simp; omega) h1
    refine ⟨w', hr, own_sl_mk a1 a2 (by simp; omega) (by simp; omega) ?_ g⟩
    rw [← a5, hl]
    apply List.ext_getElem?
    intro j
    simp only [List.getElem?_take, List.getElem?_drop, List.getElem?_append, List.length_take, List.length_drop, List.length_append]
    repeat' split
    all_goals first
      | omega
      | rfl
      | (congr 1; omega)
      | skip

theorem wpu_storeF {s : Addr} {cap n sz k j : Nat} {xs : List Value} (h : Own B A w) [tk : TakeSl (.slice (some s) n cap) sz n xs A A'] (ho : o.op = .store T ad x) (hw : Region.wanted o (yielded ops a.tmps) = true) (ha' : evalO a ad = some (.pointer (some ⟨(s.add (k * sz)).block, (s.add (k * sz)).off + (j + 1), none⟩))) (hx' : evalO a x = some v) [hT : TyOne P T] (h1 : v.oneCell' = true) (hp : k * sz + (j + 1) < n * sz)
    (kk : ∀ w', Own B (sl sz (.slice (some s) n cap) n (xs.set (k * sz + (j + 1)) v) * A') w' → wpList P ops Q rest (a.put o.dst undef) w') : wpList P ops Q (o :: rest) a w := by
  rw [add_off] at ha'
  obtain ⟨w', hr, g⟩ := exec_storeF (P := P) (cap := cap) h ho ha' hx' h1 hp
  exact wpu_skip hw hr (kk w' g)
theorem wpu_storeF0 {s : Addr} {cap n sz k : Nat} {xs : List Value} (h : Own B A w) [tk : TakeSl (.slice (some s) n cap) sz n xs A A'] (ho : o.op = .store T ad x) (hw : Region.wanted o (yielded ops a.tmps) = true) (ha' : evalO a ad = some (.pointer (some (s.add (k * sz))))) (hx' : evalO a x = some v) [hT : TyOne P T] (h1 : v.oneCell' = true) (hp : k * sz < n * sz)
    (kk : ∀ w', Own B (sl sz (.slice (some s) n cap) n (xs.set (k * sz) v) * A') w' → wpList P ops Q rest (a.put o.dst undef) w') : wpList P ops Q (o :: rest) a w := by
  obtain ⟨w', hr, g⟩ := exec_storeF (P := P) (cap := cap) h ho ha' hx' h1 hp
  exact wpu_skip hw hr (kk w' g)
theorem wpu_storeE {s : Addr} {cap n sz k : Nat} {xs : List Value} (h : Own B A w) [tk : TakeSl (.slice (some s) n cap) sz n xs A A'] (ho : o.op = .store T ad x) (hw : Region.wanted o (yielded ops a.tmps) = true) (ha' : evalO a ad = some (.pointer (some (s.add (k * sz))))) (hx' : evalO a x = some (.agg vs.toArray)) [hT : TyS P T sz] (hl : vs.length = sz) (h1 : vs.all (·.oneCell') = true) (hk : k < n)
    (kk : ∀ w', Own B (sl sz (.slice (some s) n cap) n (xs.take (k * sz) ++ vs ++ xs.drop (k * sz + sz)) * A') w' → wpList P ops Q rest (a.put o.dst undef) w') : wpList P ops Q (o :: rest) a w := by
  obtain ⟨w', hr, g⟩ := exec_storeE (P := P) (cap := cap) h ho ha' hx' hl h1 hk
  exact wpu_skip hw hr (kk w' g)
theorem wpk_storeF {s : Addr} {cap n sz k j : Nat} {xs : List Value} (h : Own B A w) [tk : TakeSl (.slice (some s) n cap) sz n xs A A'] (ho : o.op = .store T ad x) (ha' : evalO a ad = some (.pointer (some ⟨(s.add (k * sz)).block, (s.add (k * sz)).off + (j + 1), none⟩))) (hx' : evalO a x = some v) [hT : TyOne P T] (h1 : v.oneCell' = true) (hp : k * sz + (j + 1) < n * sz)
    (kk : ∀ w', Own B (sl sz (.slice (some s) n cap) n (xs.set (k * sz + (j + 1)) v) * A') w' → K (a.put o.dst undef) w') : o.wp P a w K Q := by
  rw [add_off] at ha'
  obtain ⟨w', hr, g⟩ := exec_storeF (P := P) (cap := cap) h ho ha' hx' h1 hp
  exact wpk_skip hr (kk w' g)
theorem wpk_storeF0 {s : Addr} {cap n sz k : Nat} {xs : List Value} (h : Own B A w) [tk : TakeSl (.slice (some s) n cap) sz n xs A A'] (ho : o.op = .store T ad x) (ha' : evalO a ad = some (.pointer (some (s.add (k * sz))))) (hx' : evalO a x = some v) [hT : TyOne P T] (h1 : v.oneCell' = true) (hp : k * sz < n * sz)
    (kk : ∀ w', Own B (sl sz (.slice (some s) n cap) n (xs.set (k * sz) v) * A') w' → K (a.put o.dst undef) w') : o.wp P a w K Q := by
  obtain ⟨w', hr, g⟩ := exec_storeF (P := P) (cap := cap) h ho ha' hx' h1 hp
  exact wpk_skip hr (kk w' g)
end
end Go.Sl
