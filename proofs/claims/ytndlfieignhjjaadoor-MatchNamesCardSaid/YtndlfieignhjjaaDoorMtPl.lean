
/-
  Package match: plain laws of the statements.
-/
import Derived.Test.YtndlfieignhjjaaDoorMtP
namespace Go.Proofs.YtndlfieignhjjaaDoor

theorem no63 {l : Txt} (h : ∀ k : Nat, l[k]? ≠ some 63) : ∀ c ∈ l, c ≠ 63 := by
  intro c hc e
  obtain ⟨k, hk⟩ := List.getElem?_of_mem hc
  exact h k (by rw [hk, e])
theorem bare_pre {want l : Txt} (h : ∀ c ∈ want, c ≠ 63) : bareL (want ++ l) = want ++ bareL l := by
  induction want with
  | nil => rfl
  | cons x want ih =>
    have hx : x ≠ 63 := h x (List.mem_cons_self ..)
    show bareL (x :: (want ++ l)) = x :: (want ++ bareL l)
    unfold bareL at ih ⊢
    rw [List.takeWhile_cons_of_pos (by simpa using hx), ih fun c hc => h c (List.mem_cons_of_mem _ hc)]
theorem bare_app (p more : Txt) : bareL (p ++ 63 :: more) = bareL p := by
  induction p with
  | nil => rfl
  | cons x p ih =>
    show bareL (x :: (p ++ 63 :: more)) = bareL (x :: p)
    unfold bareL at ih ⊢
    rw [List.takeWhile_cons, List.takeWhile_cons, ih]
theorem bare_self {want : Txt} (h : ∀ c ∈ want, c ≠ 63) : bareL want = want := by
  have := bare_pre (l := []) h
  simpa [bareL] using this

theorem below1 {want more : Txt} (h : ∀ c ∈ want, c ≠ 63) : pathR 1 want (want ++ 63 :: more) = true := by
  unfold pathR
  rw [if_neg (by decide), if_pos rfl, bare_app, bare_self h]
  simp
theorem below2 {want more : Txt} (h : ∀ c ∈ want, c ≠ 63) : pathR 2 want (want ++ 47 :: more) = true := by
  unfold pathR
  rw [if_neg (by decide), if_neg (by decide), if_pos rfl, bare_pre h]
  have e : bareL (47 :: more) = 47 :: bareL more := by
    unfold bareL
    rw [List.takeWhile_cons_of_pos (by decide)]
  rw [e]
  have hp : want.isPrefixOf (want ++ 47 :: bareL more) = true := by rw [List.isPrefixOf_iff_prefix]; exact List.prefix_append _ _
  rw [hp]
  simp
theorem below3 (p : Txt) : pathR 2 [] p = true := by
  unfold pathR
  rw [if_neg (by decide), if_neg (by decide), if_pos rfl]
  simp
theorem below4 (want p more : Txt) : pathR 2 want (p ++ 63 :: more) = pathR 2 want p := by
  unfold pathR
  rw [bare_app]
theorem below5 {want p : Txt} (h : pathR 1 want p = true) : pathR 2 want p = true := by
  unfold pathR at h ⊢
  rw [if_neg (by decide), if_pos rfl] at h
  rw [if_neg (by decide), if_neg (by decide), if_pos rfl]
  have e : bareL p = want := by simpa using h
  rw [e]
  have hp : want.isPrefixOf want = true := by rw [List.isPrefixOf_iff_prefix]; exact List.prefix_refl _
  rw [hp]
  simp

/-! ### letters -/

def table : Txt := [97, 98, 99, 100, 101, 102, 103, 104, 105, 106, 107, 108, 109, 110, 111, 112, 46, 48, 49, 50, 51, 52, 53, 54, 55, 56, 57, 45, 119, 120, 121, 122]
def letC (c : UInt8) : UInt8 := table.getD (c &&& 31).toNat 97
def plain (c : UInt8) : Bool := decide (c ≠ 47) && decide (c ≠ 63) && decide (c ≠ 58) && decide (c ≠ 42) && decide (smallC c = c) && decide (c ≠ 95)
set_option maxRecDepth 100000 in
theorem let_plain (c : UInt8) : plain (letC c) = true := by
  have key : ∀ n : Fin 256, plain (letC (UInt8.ofNat n.val)) = true := by decide
  have := key ⟨c.toNat, c.toNat_lt⟩
  rwa [UInt8.ofNat_toNat] at this
theorem plain_ne {c : UInt8} (h : plain c = true) : c ≠ 47 ∧ c ≠ 63 ∧ c ≠ 58 ∧ c ≠ 42 ∧ smallC c = c := by
  unfold plain at h
  simp at h
  exact ⟨h.1.1.1.1.1, h.1.1.1.1.2, h.1.1.1.2, h.1.1.2, h.1.2⟩

theorem last_mid {s m : Txt} (h : ∀ c ∈ m, c ≠ 47) : lastAt 47 (s ++ 47 :: m) = some s.length := by
  refine lastAt_eq (by simp) fun j hj e => ?_
  rw [List.getElem?_append_right (by omega)] at e
  obtain ⟨k, hk⟩ : ∃ k, j - s.length = k + 1 := ⟨j - s.length - 1, by omega⟩
  rw [hk, List.getElem?_cons_succ] at e
  exact h 47 (List.mem_of_getElem? e) rfl

theorem call_mid {s m more : Txt} (hs : ∀ c ∈ s, c ≠ 63) (hm : ∀ c ∈ m, c ≠ 47 ∧ c ≠ 63) (h1 : s ≠ []) (h2 : m ≠ []) (hmore : more = [] ∨ ∃ t, more = 63 :: t) : callR (47 :: (s ++ 47 :: (m ++ more))) = some (s, m) := by
  have hb : bareL (47 :: (s ++ 47 :: (m ++ more))) = 47 :: (s ++ 47 :: m) := by
    have e : (47 : UInt8) :: (s ++ 47 :: (m ++ more)) = (47 :: (s ++ 47 :: m)) ++ more := by simp
    have hall : ∀ c ∈ (47 : UInt8) :: (s ++ 47 :: m), c ≠ 63 := by
      intro c hc
      simp only [List.mem_cons, List.mem_append] at hc
      rcases hc with rfl | hc | rfl | hc
      · decide
      · exact hs c hc
      · decide
      · exact (hm c hc).2
    rw [e]
    rcases hmore with rfl | ⟨t, rfl⟩
    · rw [List.append_nil]; exact bare_self hall
    · rw [bare_app]; exact bare_self hall
  unfold callR
  rw [hb]
  simp only [if_true]
  rw [last_mid fun c hc => (hm c hc).1]
  have hsl : 0 < s.length := List.length_pos_iff.2 h1
  have hml : 0 < m.length := List.length_pos_iff.2 h2
  simp only
  rw [if_pos ⟨by omega, by simp; omega⟩]
  simp

theorem call_end {s : Txt} (hs : ∀ c ∈ s, c ≠ 63) : callR (47 :: (s ++ [47])) = none := by
  have hb : bareL (47 :: (s ++ [47])) = 47 :: (s ++ [47]) := bare_self (by
    intro c hc
    simp only [List.mem_cons, List.mem_append, List.mem_singleton] at hc
    rcases hc with rfl | hc | rfl | hc
    · decide
    · exact hs c hc
    · decide
    · cases hc)
  unfold callR
  rw [hb]
  simp only [if_true]
  have := last_mid (s := s) (m := []) (by simp)
  rw [this]
  simp
end Go.Proofs.YtndlfieignhjjaaDoor
