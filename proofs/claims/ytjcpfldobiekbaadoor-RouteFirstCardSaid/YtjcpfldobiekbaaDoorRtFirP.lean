




/-
  RouteFirst in plain Lean: a route that takes all, put last and put first.
-/
import Derived.Test.YtjcpfldobiekbaaDoorRtSh2
namespace Go.Proofs.YtjcpfldobiekbaaDoor
open Go.RowKit Go.Sl Go.ChangeShapes Go.Fl

def allR (fresh : Txt) : Rt := ⟨[], 0, [], [], [], [⟨fresh, one64⟩], 0⟩
/-- a snapshot of one host of the name * -/
def oneS (v : Int) (cl : List Txt) (rs : List Rt) : Sn := ⟨v, cl, [⟨[[42]], rs⟩]⟩

theorem newR_app : ∀ {l seen s : List Txt}, newR seen l = some s → s = seen ++ l
  | [], seen, s, h => by
    unfold newR at h
    simpa using (Option.some.inj h).symm
  | x :: l, seen, s, h => by
    unfold newR at h
    split at h
    · cases h
    · rw [newR_app h]; simp
theorem newR_snoc {x : Txt} (hx : x ≠ []) : ∀ {l seen s : List Txt}, newR seen l = some s → x ∉ seen → x ∉ l → newR seen (l ++ [x]) = some (s ++ [x])
  | [], seen, s, h, h1, _ => by
    unfold newR at h
    obtain rfl := Option.some.inj h
    rw [List.nil_append]
    unfold newR
    rw [if_neg (by simp [hx, h1])]
    rfl
  | y :: l, seen, s, h, h1, h2 => by
    rw [List.cons_append]
    unfold newR at h ⊢
    split at h
    · cases h
    · rename_i hn
      rw [if_neg hn]
      refine newR_snoc hx h ?_ (fun k => h2 (List.mem_cons_of_mem _ k))
      intro k
      rcases List.mem_append.1 k with k | k
      · exact h1 k
      · exact h2 (List.mem_singleton.1 k ▸ List.mem_cons_self)
theorem mayR_more {r : Rt} {cl : List Txt} (x : Txt) (h : mayR r cl = true) : mayR r (cl ++ [x]) = true := by
  unfold mayR at h ⊢
  simp only [Bool.and_eq_true] at h ⊢
  refine ⟨⟨h.1.1, ?_⟩, h.2⟩
  have := h.1.2
  rw [List.all_eq_true] at this ⊢
  intro c hc
  have := this c hc
  simp only [List.contains_eq_mem, decide_eq_true_eq, List.mem_append] at this ⊢
  exact .inl this
theorem mayR_all {cl : List Txt} (x : Txt) : mayR (allR x) (cl ++ [x]) = true := by
  have hw : weighR (weightsR (allR x).choices) = true := show weighR [one64] = true by decide +kernel
  unfold mayR
  rw [hw]
  simp [allR]
theorem hosts_one {cl : List Txt} {rs : List Rt} : hostsR cl [] [⟨[[42]], rs⟩] = (decide (rs.length ≤ 32) && rs.all (mayR · cl)) := by
  unfold hostsR
  have e : newR [] ((⟨[[42]], rs⟩ : Hs).names.map smallL) = some [[42]] := by
    show newR [] [smallL [42]] = _
    have : smallL [42] = [42] := by decide
    rw [this]
    rfl
  rw [e]
  simp [hostsR]
theorem right_parts {s : Sn} (h : rightR s = true) : 1 ≤ s.version ∧ ∃ x, newR [] s.clusters = some x := by
  unfold rightR at h
  simp only [Bool.and_eq_true, decide_eq_true_eq] at h
  exact ⟨h.1.1.1.1, Option.isSome_iff_exists.1 h.1.2⟩
theorem right_one {v : Int} {cl : List Txt} {rs : List Rt} {x : List Txt} (h1 : 1 ≤ v) (h2 : cl.length ≤ 32) (h3 : newR [] cl = some x) (h4 : rs.length ≤ 32) (h5 : ∀ r ∈ rs, mayR r cl = true) : rightR (oneS v cl rs) = true := by
  unfold rightR oneS
  simp only [hosts_one, h3]
  simp only [Bool.and_eq_true, decide_eq_true_eq, List.all_eq_true]
  exact ⟨⟨⟨⟨h1, h2⟩, by simp⟩, rfl⟩, h4, h5⟩

section
variable {s : Sn} {h0 : Hs} {fresh : Txt} (hr : rightR s = true) (hh : s.hosts[0]? = some h0) (hn : h0.routes.length ≤ 31) (hc : s.clusters.length ≤ 31)
include hr hh
theorem head_may : ∀ r ∈ h0.routes, mayR r s.clusters = true := fun _ hm => right_may hr h0 (List.mem_of_getElem? hh) _ hm
include hn hc
theorem right_head : rightR (oneS s.version s.clusters h0.routes) = true := by
  obtain ⟨h1, x, h3⟩ := right_parts hr
  exact right_one h1 (by omega) h3 (by omega) (head_may hr hh)
theorem right_last (hf : fresh ∉ s.clusters) (hf0 : fresh ≠ []) : rightR (oneS s.version (s.clusters ++ [fresh]) (h0.routes ++ [allR fresh])) = true := by
  obtain ⟨h1, x, h3⟩ := right_parts hr
  refine right_one h1 (by simp; omega) (newR_snoc hf0 h3 (by simp) hf) (by simp; omega) ?_
  intro r hm
  rcases List.mem_append.1 hm with hm | hm
  · exact mayR_more _ (head_may hr hh r hm)
  · rw [List.mem_singleton.1 hm]; exact mayR_all _
theorem right_front (hf : fresh ∉ s.clusters) (hf0 : fresh ≠ []) : rightR (oneS s.version (s.clusters ++ [fresh]) (allR fresh :: h0.routes)) = true := by
  obtain ⟨h1, x, h3⟩ := right_parts hr
  refine right_one h1 (by simp; omega) (newR_snoc hf0 h3 (by simp) hf) (by simp; omega) ?_
  intro r hm
  rcases List.mem_cons.1 hm with rfl | hm
  · exact mayR_all _
  · exact mayR_more _ (head_may hr hh r hm)
end
theorem near_one (auth : Txt) (rs : List Rt) : (nearH auth 0 (0, none) [⟨[[42]], rs⟩]).2 = some 0 := by
  have e : hostR [42] auth = 1 := by
    unfold hostR
    rw [if_pos (by decide)]
  unfold nearH nearH
  simp [nearN, e]
theorem find_one {v : Int} {cl : List Txt} {rs : List Rt} {F : List Fd} {d : Nat} (h : rightR (oneS v cl rs) = true) : findR (oneS v cl rs) F d = goesR rs (firstF F [58, 112, 97, 116, 104]) F d := by
  unfold findR
  rw [if_pos h]
  unfold oneS
  simp only [near_one]
  rfl
theorem fits_all (fresh p : Txt) (F : List Fd) : fitsR (allR fresh) p F = true := by
  unfold fitsR allR pathR
  simp
theorem goes_all {fresh p : Txt} {F : List Fd} {rs : List Rt} {d : Nat} : goesR (allR fresh :: rs) p F d = some (fresh, 0) := by
  unfold goesR
  rw [show (allR fresh :: rs).find? (fun r => fitsR r p F) = some (allR fresh) from List.find?_cons_of_pos (p := fun r => fitsR r p F) (fits_all fresh p F)]
  have hp : pickR [one64] d = 0 := by
    have := pick_lt (l := [one64]) (by decide +kernel) d
    simp at this
    exact this
  show some (((([⟨fresh, one64⟩] : List Ch)[pickR [one64] d]?).map (·.cluster)).getD [], (0 : Int)) = _
  rw [hp]
  rfl
theorem goes_last {fresh p : Txt} {F : List Fd} {rs : List Rt} {d : Nat} : goesR (rs ++ [allR fresh]) p F d = some ((goesR rs p F d).getD (fresh, 0)) := by
  unfold goesR
  rw [List.find?_append]
  cases e : rs.find? fun r => fitsR r p F with
  | some r => simp
  | none =>
    have := goes_all (fresh := fresh) (p := p) (F := F) (rs := []) (d := d)
    unfold goesR at this
    rw [Option.none_or, this]
    rfl

/-! the fresh name: '+' behind it as long as it is there -/
/-- 'so many of the clusters are a beginning of it' -/
def grown (n : Nat) : Txt := [102, 114, 101, 115, 104] ++ List.replicate n 43
theorem grown_len (n : Nat) : (grown n).length = 5 + n := by simp [grown]; omega
theorem grown_succ (n : Nat) : grown n ++ [43] = grown (n + 1) := by
  unfold grown
  rw [List.append_assoc, List.replicate_succ']
theorem grown_ne (n : Nat) : grown n ≠ [] := by intro e; have := grown_len n; rw [e] at this; simp at this; omega
theorem grown_inj {n m : Nat} (h : grown n = grown m) : n = m := by
  have h1 := grown_len n
  rw [h, grown_len] at h1
  omega
/-- as many have been met as it has grown -/
theorem grown_le {cl : List Txt} {n : Nat} (h : ∀ k, k < n → grown k ∈ cl) : n ≤ cl.length := by
  have h1 : ((List.range n).map grown).Nodup := by
    rw [List.nodup_iff_pairwise_ne, List.pairwise_map]
    refine List.Pairwise.imp ?_ (List.nodup_range (n := n))
    intro a b hab e
    exact hab (grown_inj e)
  have h2 : ∀ x ∈ (List.range n).map grown, x ∈ cl := by
    intro x hx
    obtain ⟨k, hk, rfl⟩ := List.mem_map.1 hx
    exact h k (List.mem_range.1 hk)
  have := List.Nodup.length_le_of_subset h1 h2
  simpa using this

section
variable {B w : World} {R : Assn} {v : Int} {cl : List Txt} {rs : List Rt} {cs : List Value}
/-- one host of the name *, taken apart -/
theorem own_oneA (h : Own B (snA cs (oneS v cl rs) * R) w) : ∃ vc ho hc vn vr rrows, cs = [.int .i64 v, vc, .slice ho 1 hc] ∧ (∀ c ∈ rrows, c.length = 7) ∧ Own B (sl 1 vc cl.length (strs cl) * (sl 2 (.slice ho 1 hc) 1 [vn, vr] * (sl 1 vn 1 (strs [[42]]) * (sl 7 vr rs.length rrows.flatten * (starL rtA rrows rs * R))))) w := by
  obtain ⟨vc, vh, rows, rfl, h2, h⟩ := own_snA h
  have hl := starL_len (R := sl 1 vc cl.length (strs cl) * (sl 2 vh 1 rows.flatten * R)) (h.eq (by
    show sl 1 vc cl.length (strs cl) * (sl 2 vh 1 rows.flatten * (starL hsA rows [⟨[[42]], rs⟩] * R)) = _
    ac_rfl))
  match rows, hl with
  | [c], _ =>
    have h' : Own B (hsA c ⟨[[42]], rs⟩ * (sl 1 vc cl.length (strs cl) * (sl 2 vh 1 c * R))) w := h.eq (by
      show sl 1 vc cl.length (strs cl) * (sl 2 vh 1 [c].flatten * ((hsA c ⟨[[42]], rs⟩ * emp) * R)) = _
      rw [star_emp, List.flatten_singleton]
      ac_rfl)
    obtain ⟨vn, vr, rrows, rfl, h7, h'⟩ := own_hsA h'
    have h' := h'.eq (A' := sl 2 vh 1 [vn, vr] * (sl 1 vc cl.length (strs cl) * (sl 1 vn 1 (strs [[42]]) * (sl 7 vr rs.length rrows.flatten * (starL rtA rrows rs * R))))) (by
      show sl 1 vn 1 (strs [[42]]) * (sl 7 vr rs.length rrows.flatten * (starL rtA rrows rs * (sl 1 vc cl.length (strs cl) * (sl 2 vh 1 [vn, vr] * R)))) = _
      ac_rfl)
    obtain ⟨ho, hc, rfl, -, -, -⟩ := own_rd h'
    exact ⟨vc, ho, hc, vn, vr, rrows, rfl, h7, h'.eq (by ac_rfl)⟩
theorem own_oneA_mk {vc vh vn vr : Value} {rrows : List (List Value)} (h7 : ∀ c ∈ rrows, c.length = 7) (h : Own B (sl 1 vc cl.length (strs cl) * (sl 2 vh 1 [vn, vr] * (sl 1 vn 1 (strs [[42]]) * (sl 7 vr rs.length rrows.flatten * (starL rtA rrows rs * R))))) w) : Own B (snA [.int .i64 v, vc, vh] (oneS v cl rs) * R) w := by
  refine own_snA_mk (s := oneS v cl rs) (rows := [[vn, vr]]) (fun c hc => by rw [List.mem_singleton.1 hc]; rfl) ?_
  have h1 : Own B (hsA [vn, vr] ⟨[[42]], rs⟩ * (sl 1 vc cl.length (strs cl) * (sl 2 vh 1 [vn, vr] * R))) w := own_hsA_mk (h0 := ⟨[[42]], rs⟩) h7 (h.eq (by
    show _ = sl 1 vn 1 (strs [[42]]) * (sl 7 vr rs.length rrows.flatten * (starL rtA rrows rs * (sl 1 vc cl.length (strs cl) * (sl 2 vh 1 [vn, vr] * R))))
    ac_rfl))
  refine h1.eq ?_
  show _ = sl 1 vc cl.length (strs cl) * (sl 2 vh 1 [[vn, vr]].flatten * ((hsA [vn, vr] ⟨[[42]], rs⟩ * emp) * R))
  rw [star_emp, List.flatten_singleton]
  ac_rfl
theorem last_end {vc vh vn vr vk : Value} {x : Txt} {rrows : List (List Value)} (h7 : ∀ c ∈ rrows, c.length = 7) (h : Own B (sl 1 vc (cl.length + 1) (strs (cl ++ [x])) * (sl 2 vh 1 [vn, vr] * (sl 1 vn 1 (strs [[42]]) * (sl 7 vr (rs.length + 1) (rrows.flatten ++ rtCs (allR x) (.slice none 0 0) vk) * (starL rtA rrows rs * (sl 2 vk 1 (chs [⟨x, one64⟩]) * R)))))) w) : Own B (snA [.int .i64 v, vc, vh] (oneS v (cl ++ [x]) (rs ++ [allR x])) * R) w := by
  have hl := starL_len (R := sl 1 vc (cl.length + 1) (strs (cl ++ [x])) * (sl 2 vh 1 [vn, vr] * (sl 1 vn 1 (strs [[42]]) * (sl 7 vr (rs.length + 1) (rrows.flatten ++ rtCs (allR x) (.slice none 0 0) vk) * (sl 2 vk 1 (chs [⟨x, one64⟩]) * R))))) (h.eq (by ac_rfl))
  have h1 := own_rtA_mk (r := allR x) (vf := .slice none 0 0) (vc := vk) (R := sl 1 vc (cl.length + 1) (strs (cl ++ [x])) * (sl 2 vh 1 [vn, vr] * (sl 1 vn 1 (strs [[42]]) * (sl 7 vr (rs.length + 1) (rrows.flatten ++ rtCs (allR x) (.slice none 0 0) vk) * (starL rtA rrows rs * R))))) ((own_nil h 4).eq (by
    show _ = sl 4 (.slice none 0 0) 0 [] * (sl 2 vk 1 (chs [⟨x, one64⟩]) * _)
    ac_rfl))
  refine own_oneA_mk (v := v) (cl := cl ++ [x]) (rs := rs ++ [allR x]) (vn := vn) (vr := vr) (rrows := rrows ++ [rtCs (allR x) (.slice none 0 0) vk]) (fun c hc => ?_) (h1.eq ?_)
  · rcases List.mem_append.1 hc with hc | hc
    · exact h7 c hc
    · rw [List.mem_singleton.1 hc]; rfl
  · rw [starL_snoc hl, List.flatten_append, List.flatten_singleton, List.length_append, List.length_singleton, List.length_append, List.length_singleton]
    ac_rfl
theorem rd_oneS {vc vh vn vr : Value} {xs : List Value} (h1 : rd w 1 vc cl.length (strs cl)) (h2 : rd w 2 vh 1 [vn, vr]) (h3 : rd w 1 vn 1 (strs [[42]])) (h4 : rd w 7 vr rs.length xs) (h5 : rdL rdRt 7 w xs rs) : rdSn w [.int .i64 v, vc, vh] (oneS v cl rs) :=
  ⟨vc, vh, [vn, vr], rfl, h1, h2, rfl, fun i a hi => by
    cases i with
    | zero =>
      obtain rfl := Option.some.inj (show some (⟨[[42]], rs⟩ : Hs) = some a from hi)
      exact ⟨vn, vr, xs, rfl, h3, h4, h5⟩
    | succ i => cases i <;> exact absurd hi (by simp [oneS])⟩
theorem rdSn_one (h : rdSn w cs (oneS v cl rs)) : ∃ vc vh vn vr xs, cs = [.int .i64 v, vc, vh] ∧ rd w 1 vc cl.length (strs cl) ∧ rd w 2 vh 1 [vn, vr] ∧ rd w 1 vn 1 (strs [[42]]) ∧ rd w 7 vr rs.length xs ∧ rdL rdRt 7 w xs rs := by
  obtain ⟨vc, vh, ys, rfl, h1, h2, hl, hL⟩ := h
  obtain ⟨vn, vr, xs, e, h3, h4, h5⟩ := hL 0 _ rfl
  have : ys = [vn, vr] := by
    rw [← e, Nat.zero_mul, List.drop_zero]
    exact (List.take_of_length_le (by rw [hl]; exact Nat.le_refl _)).symm
  subst this
  exact ⟨vc, vh, vn, vr, xs, rfl, h1, h2, h3, h4, h5⟩
/-- one row more, behind and ahead -/
theorem rdL_snoc {α : Type} {f : World → List Value → α → Prop} {sz : Nat} {xs c : List Value} {L : List α} {a : α} (h : rdL f sz w xs L) (hc : c.length = sz) (ha : f w c a) : rdL f sz w (xs ++ c) (L ++ [a]) := by
  refine ⟨by rw [List.length_append, h.1, hc, List.length_append, List.length_singleton, Nat.succ_mul], fun i b hi => ?_⟩
  rcases Nat.lt_or_ge i L.length with hl | hl
  · rw [List.getElem?_append_left hl] at hi
    have e : i * sz + sz ≤ xs.length := by rw [h.1, ← Nat.succ_mul]; exact Nat.mul_le_mul_right _ hl
    rw [List.drop_append, List.take_append, show sz - (xs.drop (i * sz)).length = 0 by rw [List.length_drop]; omega, List.take_zero, List.append_nil]
    exact h.2 i b hi
  · have e : i = L.length := by
      have := (List.getElem?_eq_some_iff.1 hi).1
      simp at this
      omega
    subst e
    rw [List.getElem?_append_right (Nat.le_refl _), Nat.sub_self] at hi
    obtain rfl := Option.some.inj (show some a = some b from hi)
    rw [← h.1, List.drop_left, List.take_of_length_le (by omega)]
    exact ha
theorem rdL_cons {α : Type} {f : World → List Value → α → Prop} {sz : Nat} {xs c : List Value} {L : List α} {a : α} (h : rdL f sz w xs L) (hc : c.length = sz) (ha : f w c a) : rdL f sz w (c ++ xs) (a :: L) := by
  refine ⟨by rw [List.length_append, h.1, hc, List.length_cons, Nat.succ_mul]; omega, fun i b hi => ?_⟩
  cases i with
  | zero =>
    obtain rfl := Option.some.inj (show some a = some b from hi)
    rw [Nat.zero_mul, List.drop_zero, List.take_left' hc]
    exact ha
  | succ i =>
    have e : (i + 1) * sz = c.length + i * sz := by rw [hc, Nat.succ_mul]; omega
    rw [e, ← List.drop_drop, List.drop_left]
    exact h.2 i b hi
end
theorem oneS_ok {v : Int} {cl : List Txt} {rs : List Rt} (h1 : ∀ c ∈ cl, c.length ≤ 140737488351232) (h2 : ∀ r ∈ rs, r.ok) : (oneS v cl rs).ok := ⟨h1, fun h hh => by
  rw [List.mem_singleton.1 hh]
  exact ⟨fun n hn => by rw [List.mem_singleton.1 hn]; decide, h2⟩⟩
theorem allR_ok {x : Txt} (h : x.length ≤ 100) : (allR x).ok := ⟨Nat.zero_le _, Nat.zero_le _, Nat.zero_le _, (fun _ h => by cases h), (fun c hc => by rw [List.mem_singleton.1 hc]; exact Nat.le_trans h (by decide))⟩
end Go.Proofs.YtjcpfldobiekbaaDoor
