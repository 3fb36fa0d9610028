

/-
  append, where the old slice can be read still.
-/
import Derived.Test.YtikngjdljdofkaaDoorAuto2
namespace Go.Sl
open Go Go.RowKit Go.BigFrame

/-- v' (n' elements, zs) is the call's own; v (n elements, xs) can be read beside it, be it a part of v' or not -/
def pre (sz : Nat) (v : Value) (n : Nat) (xs : List Value) (v' : Value) (n' : Nat) (zs : List Value) : Assn := fun h =>
  (∃ ao cap, v = .slice ao n cap ∧ v' = .slice ao n' cap ∧ n ≤ n' ∧ zs.take (n * sz) = xs ∧ sl sz v' n' zs h) ∨ (sl sz v' n' zs * sl sz v n xs) h

section
variable {B w : World} {A R : Assn} {T : TypeId} {sz : Nat} {v v' : Value} {n n' : Nat} {xs zs : List Value} {P : Program}

theorem own_pre (h : Own B (pre sz v n xs v' n' zs * R) w) : (∃ ao cap, v = .slice ao n cap ∧ v' = .slice ao n' cap ∧ n ≤ n' ∧ zs.take (n * sz) = xs ∧ Own B (sl sz v' n' zs * R) w) ∨ Own B (sl sz v' n' zs * (sl sz v n xs * R)) w := by
  obtain ⟨hb, _, ⟨h1, h2, d, rfl, hp, r⟩, k⟩ := h
  rcases hp with ⟨ao, cap, e1, e2, e3, e4, s⟩ | s
  · exact .inl ⟨ao, cap, e1, e2, e3, e4, hb, _, ⟨h1, h2, d, rfl, s, r⟩, k⟩
  · right
    rw [← star_assoc]
    exact ⟨hb, _, ⟨h1, h2, d, rfl, s, r⟩, k⟩
theorem own_pre_same {ao : Option Addr} {cap : Nat} (h1 : n ≤ n') (h2 : zs.take (n * sz) = xs) (e1 : v = .slice ao n cap) (e2 : v' = .slice ao n' cap) (h : Own B (sl sz v' n' zs * R) w) : Own B (pre sz v n xs v' n' zs * R) w := by
  refine h.mono ?_
  rintro _ ⟨x1, x2, d, rfl, s, r⟩
  exact ⟨x1, x2, d, rfl, .inl ⟨ao, cap, e1, e2, h1, h2, s⟩, r⟩
theorem own_pre_two (h : Own B (sl sz v' n' zs * (sl sz v n xs * R)) w) : Own B (pre sz v n xs v' n' zs * R) w := by
  rw [← star_assoc] at h
  refine h.mono ?_
  rintro _ ⟨x1, x2, d, rfl, s, r⟩
  exact ⟨x1, x2, d, rfl, .inr s, r⟩
theorem pre_new (h : Own B (pre sz v n xs v' n' zs * R) w) : rd w sz v' n' zs := by
  rcases own_pre h with ⟨_, _, _, _, _, _, h⟩ | h
  · exact own_rd h
  · exact own_rd h
theorem pre_old (h : Own B (pre sz v n xs v' n' zs * R) w) : rd w sz v n xs := by
  rcases own_pre h with ⟨ao, cap, rfl, rfl, h1, rfl, g⟩ | g
  · exact rd_take (own_rd g) h1
  · exact own_rd g.right
/-- the new one alone -/
theorem pre_sl (h : Own B (pre sz v n xs v' n' zs * R) w) : Own B (sl sz v' n' zs * R) w := by
  rcases own_pre h with ⟨_, _, _, _, _, _, h⟩ | h
  · exact h
  · exact h.skip

/-- 'append' to a slice of the call's own that can be read still -/
theorem run_append_pre (h : Own B (sl sz v n xs * R) w) {t ty : TypeId} {i : TypeInfo} {z : Value} (ht : P.underlying t = some (.slice T)) (hi : P.info? T = some i) (hz : i.zero = some z) (hsz : i.size = sz) (hzs : z.cells.size = sz) (h0 : 0 < sz)
    {u : Value} {m : Nat} {ys : List Value} (hr : rd w sz u m ys) (h1 : ∀ y ∈ ys, y.oneCell' = true) (hm : n + m ≤ maxLen) (hb : (n + m) * i.bytes ≤ 140737488355328) :
    ∃ v' w', (Builtin.append_ #[t, t] ty #[v, u]).run P w = .ok v' w' ∧ Own B (pre sz v n xs v' (n + m) (xs ++ ys) * R) w' := by
  subst hsz
  have hcu := fun (w1 : World) (hk : rd w1 i.size u m ys) => run_cells_rd (P := P) hk
  have hcv := fun (w1 : World) (hk : rd w1 i.size v n xs) => run_cells_rd (P := P) hk
  have hru := hr
  have hrv := own_rd h
  have hlen : (xs ++ ys).length = (n + m) * i.size := by rw [List.length_append, hrv.len, hru.len, Nat.add_mul]
  have hsmall : n + m ≤ 9223372036854775807 := by simpa only [maxLen] using hm
  obtain ⟨uo, ucap, rfl, u1, u2, u3, u4, u5⟩ := hr
  obtain ⟨vo, cap, rfl, v1, v2, v3, v4, v5⟩ := own_rd h
  have hn0 : P.underlying t ≠ none := by rw [ht]; simp
  by_cases hroom : n + m ≤ cap
  · rcases own_sl h with ⟨e1, rfl, rfl, ho⟩ | ⟨b, off, cap', cs, e1, a1, a2, a3, a4, a5, ho⟩
    · obtain ⟨rfl, rfl⟩ : vo = none ∧ cap = 0 := by simpa using e1
      have : m = 0 := by omega
      subst this
      have hy : ys = [] := List.eq_nil_of_length_eq_zero (by simpa using u3)
      subst hy
      refine ⟨.slice none 0 0, w, ?_, own_pre_same (by omega) (by simp) rfl rfl (own_nil ho i.size)⟩
      simp [Builtin.append_, run_underlying ht, sizeOf, typeInfo, hi, Builtin.lenOf, hcu w hru]
    · obtain ⟨rfl, rfl⟩ : vo = some ⟨b, off, none⟩ ∧ cap = cap' := by simpa using e1
      obtain ⟨T', fr, hf, hg, hb'⟩ := own_blk_at ho
      have hfit : off + n * i.size + ys.length ≤ cs.length := by
        rw [u3]
        have : (n + m) * i.size ≤ cap * i.size := Nat.mul_le_mul_right _ hroom
        rw [Nat.add_mul] at this
        omega
      have hst := run_storeCells_fr (P := P) b (off + n * i.size) T' fr ys 0 cs.toArray w (by simpa using hf) hg (by simpa using hfit) h1
      have hl2 : ((cs.take (off + n * i.size)) ++ ys ++ cs.drop (off + n * i.size + ys.length)).length = cs.length := by
        simp only [List.length_append, List.length_take, List.length_drop]; omega
      refine ⟨.slice (some ⟨b, off, none⟩) (n + m) cap, w.setRow b ((cs.take (off + n * i.size)) ++ ys ++ cs.drop (off + n * i.size + ys.length)).toArray, ?_, ?_⟩
      · have hst' : (storeCells ⟨b, off + n * i.size, none⟩ ys).run P w = .ok () (w.setRow b ((cs.take (off + n * i.size)) ++ ys ++ cs.drop (off + n * i.size + ys.length)).toArray) := by simpa using hst
        simp [Builtin.append_, run_underlying ht, sizeOf, typeInfo, hi, Builtin.lenOf, hroom, hcu w hru, Addr.add_lit, hst']
      · refine own_pre_same (by omega) (by rw [← a3]; exact List.take_left) rfl rfl (own_sl_mk hroom v2 hlen (by rw [hl2]; exact a4) ?_ (own_setRow ho _ hl2))
        rw [← a5, Nat.add_mul, ← u3]
        apply List.ext_getElem?
        intro j
        simp only [List.getElem?_take, List.getElem?_drop, List.getElem?_append, List.length_append, List.length_take, List.length_drop]
        have hc : n * i.size ≤ cs.length - off := by omega
        by_cases j1 : j < n * i.size
        · have e1 : j < n * i.size + ys.length := by omega
          have e2 : off + j < min (off + n * i.size) cs.length + ys.length := by omega
          have e3 : off + j < min (off + n * i.size) cs.length := by omega
          have e4 : off + j < off + n * i.size := by omega
          have e5 : j < min (n * i.size) (cs.length - off) := by omega
          simp [e1, e2, e3, e4, e5, j1]
        · by_cases j2 : j < n * i.size + ys.length
          · have e2 : off + j < min (off + n * i.size) cs.length + ys.length := by omega
            have e3 : ¬ off + j < min (off + n * i.size) cs.length := by omega
            have e5 : ¬ j < min (n * i.size) (cs.length - off) := by omega
            have e6 : off + j - min (off + n * i.size) cs.length = j - min (n * i.size) (cs.length - off) := by omega
            simp [j2, e2, e3, e5, e6]
          · have e5 : ¬ j < min (n * i.size) (cs.length - off) := by omega
            have e7 : ys.length ≤ j - min (n * i.size) (cs.length - off) := by omega
            simp [j2, e5, e7]
  · have hdr := own_drew h
    have hfit : Builtin.nextslicecap (n + m) cap * i.bytes ≤ 281474976710656 := growslice_fits (by omega) hb
    have h63' : ¬ (9223372036854775807 < ((n : Int) + (m : Int))) := by omega
    have h48' : ¬ (281474976710656 < Builtin.nextslicecap (n + m) cap * i.bytes) := by omega
    have hge := grownCap_ge w (n + m) cap T
    have hcm : grownCap w (n + m) cap T ≤ maxLen := grownCap_le_maxLen w (n + m) cap T hm
    have hru' : rd w.drew i.size (.slice uo m ucap) m ys := ⟨uo, ucap, rfl, u1, u2, u3, u4, u5⟩
    have hrv' : rd w.drew i.size (.slice vo n cap) n xs := own_rd hdr
    have hnew := own_new hdr (xs ++ ys ++ (Builtin.zeroCells z.cells (grownCap w (n + m) cap T - (n + m))).toList) T
    refine ⟨.slice (some ⟨w.heap.size, 0, none⟩) (n + m) (grownCap w (n + m) cap T), w.drew.alloc (.cells (xs ++ ys ++ (Builtin.zeroCells z.cells (grownCap w (n + m) cap T - (n + m))).toList).toArray T), ?_, ?_⟩
    · simp [Builtin.append_, run_underlying ht, sizeOf, typeInfo, zeroValue, hi, hz, Builtin.lenOf, hroom, h63', h48', Question.forced, hcu _ hru', hcv _ hrv', newRow, grownCap]
      congr 2
      apply Array.ext'
      simp
    · refine own_pre_two (own_sl_mk hge hcm hlen ?_ ?_ hnew)
      · simp only [List.length_append, Array.length_toList, size_zeroCells, hzs]
        rw [← List.length_append, hlen, ← Nat.add_mul, Nat.zero_add]
        exact Nat.mul_le_mul_right _ (by omega)
      · rw [List.drop_zero, ← hlen]
        exact List.take_left
section
variable {A' : Assn} {ops : Array Oper} {Q : Exit → Act → World → Prop} {rest : List Oper} {o : Oper} {a : Act}
/-- append to an own slice that can be read still -/
theorem wpu_appendP (h : Own B A w) {t T' sz bytes m : Nat} {z u : Value} {s y : Operand} {xs ys : List Value} (ho : o.op = .call { callee := .builtin .append, args := #[s, y], argTypes := #[t, t] }) (hw : Region.wanted o (yielded ops a.tmps) = true)
    (hs : evalO a s = some v) (hy : evalO a y = some u) [I : TyApp P t T' sz bytes z] [tk : TakeSl v sz n xs A A'] (hr : Sl.rd w sz u m ys) (h1 : ∀ y ∈ ys, y.oneCell' = true) (hm : n + m ≤ maxLen) (hb : (n + m) * bytes ≤ 140737488355328)
    (k : ∀ v' w', Own B (pre sz v n xs v' (n + m) (xs ++ ys) * A') w' → wpList P ops Q rest (a.put o.dst v') w') : wpList P ops Q (o :: rest) a w := by
  obtain ⟨ht, hzs, h0, i, hi, hz, hsz, hby⟩ := I.out
  obtain ⟨v', w', hrun, ho'⟩ := run_append_pre (P := P) (ty := o.type) (h.eq tk.out) ht hi hz hsz hzs h0 hr h1 hm (by rw [hby]; exact hb)
  exact wpList_want hw fun _ hK => wp_of_builtin ho (by simp only [builtin, List.map_toArray, List.map_cons, List.map_nil, evalO_eq hs, evalO_eq hy]) hrun (hK _ _ (k v' w' ho'))
end
end
end Go.Sl
