
/-
  Package match: plain laws of hosts.
-/
import Derived.Test.YtndlfieignhjjaaDoorMtPl
namespace Go.Proofs.YtndlfieignhjjaaDoor

theorem small_plain {l : Txt} (h : ∀ c ∈ l, smallC c = c) : smallL l = l := by
  induction l with
  | nil => rfl
  | cons x l ih =>
    show smallC x :: smallL l = x :: l
    rw [h x (List.mem_cons_self ..), ih fun c hc => h c (List.mem_cons_of_mem _ hc)]
theorem name_plain {l : Txt} (h : ∀ c ∈ l, smallC c = c ∧ c ≠ 58) : nameL l = l := by
  unfold nameL
  rw [lastAt_no fun j e => (h 58 (List.mem_of_getElem? e)).2 rfl]
  exact small_plain fun c hc => (h c hc).1

/-- what a name of a statement is made of -/
def Ok (l : Txt) : Prop := ∀ c ∈ l, smallC c = c ∧ c ≠ 58 ∧ c ≠ 42
theorem Ok.app {l m : Txt} (h : Ok l) (k : Ok m) : Ok (l ++ m) := by
  intro c hc
  rcases List.mem_append.1 hc with g | g
  · exact h c g
  · exact k c g
theorem Ok.dot : Ok [46] := by
  intro c hc
  rw [List.mem_singleton.1 hc]
  decide
theorem Ok.plain {l : Txt} (h : ∀ c ∈ l, plain c = true) : Ok l := fun c hc => ⟨(plain_ne (h c hc)).2.2.2.2, (plain_ne (h c hc)).2.2.1, (plain_ne (h c hc)).2.2.2.1⟩
theorem Ok.small {l : Txt} (h : Ok l) : smallL l = l := small_plain fun c hc => (h c hc).1
theorem Ok.name {l : Txt} (h : Ok l) : nameL l = l := name_plain fun c hc => ⟨(h c hc).1, (h c hc).2.1⟩

/-- a pattern of a star -/
theorem host_star {a n : Txt} (ha : Ok a) (hn : Ok n) : hostR (42 :: 46 :: a) n = if (46 :: a : Txt).isSuffixOf n = true ∧ n ≠ 46 :: a then 3 + (a.length : Int) else 0 := by
  have hs : smallL (42 :: 46 :: a) = 42 :: 46 :: a := by
    show smallC 42 :: smallC 46 :: smallL a = _
    rw [ha.small]
    rfl
  unfold hostR
  rw [hs, hn.name, if_neg (by simp), if_pos (by simp [List.isPrefixOf])]
  have e : (1 + (((42 :: 46 :: a : Txt).length : Nat) : Int)) = 3 + (a.length : Int) := by simp; omega
  rw [e]
  rfl
theorem host_wild {a b : Txt} (ha : Ok a) (hb : Ok b) : hostR (42 :: 46 :: a) (b ++ 46 :: a) = if b ≠ [] then 3 + (a.length : Int) else 0 := by
  have hok : Ok (b ++ 46 :: a) := hb.app (Ok.app Ok.dot ha)
  rw [host_star ha hok]
  have h1 : (46 :: a : Txt).isSuffixOf (b ++ 46 :: a) = true := by rw [List.isSuffixOf_iff_suffix]; exact List.suffix_append _ _
  by_cases e : b = []
  · subst e
    simp
  · rw [if_pos ⟨h1, fun e2 => e (List.append_left_eq_self.1 e2)⟩, if_pos e]
theorem host_same {a n : Txt} (ha : Ok a) (hn : Ok n) : hostR a n = if a = n then 1000 + (a.length : Int) else 0 := by
  have h1 : a ≠ [42] := fun e => (ha 42 (by rw [e]; simp)).2.2 rfl
  have h2 : ¬ ([42, 46] : Txt).isPrefixOf a = true := fun e => by
    obtain ⟨t, ht⟩ := List.isPrefixOf_iff_prefix.1 e
    exact (ha 42 (by rw [← ht]; simp)).2.2 rfl
  unfold hostR
  rw [ha.small, hn.name, if_neg h1, if_neg h2]

/-! ### large letters, ports -/

def largeC (c : UInt8) : UInt8 := if 97 ≤ c ∧ c ≤ 122 then c - 32 else c
def largeL (l : Txt) : Txt := l.map largeC
set_option maxRecDepth 100000 in
theorem small_large {c : UInt8} (h : smallC c = c) : smallC (largeC c) = c := by
  have key : ∀ n : Fin 256, smallC (UInt8.ofNat n.val) = UInt8.ofNat n.val → smallC (largeC (UInt8.ofNat n.val)) = UInt8.ofNat n.val := by decide
  have := key ⟨c.toNat, c.toNat_lt⟩
  simp only [UInt8.ofNat_toNat] at this
  exact this h
set_option maxRecDepth 100000 in
theorem large_ne {c : UInt8} (h : c ≠ 58) : largeC c ≠ 58 := by
  have key : ∀ n : Fin 256, UInt8.ofNat n.val ≠ 58 → largeC (UInt8.ofNat n.val) ≠ 58 := by decide
  have := key ⟨c.toNat, c.toNat_lt⟩
  simp only [UInt8.ofNat_toNat] at this
  exact this h
theorem Ok.large {l : Txt} (h : Ok l) : smallL (largeL l) = l := by
  unfold smallL largeL
  rw [List.map_map]
  have : ∀ c ∈ l, (smallC ∘ largeC) c = c := fun c hc => small_large (h c hc).1
  calc l.map (smallC ∘ largeC) = l.map id := List.map_congr_left this
    _ = l := List.map_id _
theorem Ok.nameLarge {l : Txt} (h : Ok l) : nameL (largeL l) = l := by
  unfold nameL
  rw [lastAt_no fun j e => by
    obtain ⟨x, hx, e2⟩ := List.mem_map.1 (List.mem_of_getElem? e)
    exact large_ne (h x hx).2.1 e2]
  exact h.large
theorem Ok.namePort {l : Txt} {x y : UInt8} (h : Ok l) (hx : digit x = true) (hy : digit y = true) : nameL (l ++ [58, x, y]) = l := by
  have hl : lastAt 58 (l ++ [58, x, y]) = some l.length := lastAt_eq (by simp) fun j hj e => by
    rw [List.getElem?_append_right (by omega)] at e
    have hj2 : j - l.length = 1 ∨ j - l.length = 2 ∨ 3 ≤ j - l.length := by omega
    rcases hj2 with g | g | g
    · rw [g] at e; simp at e; rw [e] at hx; simp [digit] at hx
    · rw [g] at e; simp at e; rw [e] at hy; simp [digit] at hy
    · rw [List.getElem?_eq_none (by simpa using g)] at e; cases e
  unfold nameL
  rw [hl]
  have hd : (l ++ [58, x, y]).drop (l.length + 1) = [x, y] := by
    rw [← List.drop_drop, List.drop_left']
    · rfl
    · rfl
  simp only
  rw [hd, if_pos ⟨by simp, by simp [hx, hy]⟩, List.take_left']
  · exact h.small
  · rfl

theorem host_large {a n n' : Txt} (ha : Ok a) (hn : nameL n = n') : hostR (largeL a) n = if a = n' then 1000 + (a.length : Int) else 0 := by
  have h1 : a ≠ [42] := fun e => (ha 42 (by rw [e]; simp)).2.2 rfl
  have h2 : ¬ ([42, 46] : Txt).isPrefixOf a = true := fun e => by
    obtain ⟨t, ht⟩ := List.isPrefixOf_iff_prefix.1 e
    exact (ha 42 (by rw [← ht]; simp)).2.2 rfl
  unfold hostR
  have hl : (largeL a).length = a.length := by simp [largeL]
  rw [ha.large, hn, if_neg h1, if_neg h2, hl]
theorem host_eq {a n n' : Txt} (ha : Ok a) (hn : nameL n = n') : hostR a n = if a = n' then 1000 + (a.length : Int) else 0 := by
  have h1 : a ≠ [42] := fun e => (ha 42 (by rw [e]; simp)).2.2 rfl
  have h2 : ¬ ([42, 46] : Txt).isPrefixOf a = true := fun e => by
    obtain ⟨t, ht⟩ := List.isPrefixOf_iff_prefix.1 e
    exact (ha 42 (by rw [← ht]; simp)).2.2 rfl
  unfold hostR
  rw [ha.small, hn, if_neg h1, if_neg h2]
end Go.Proofs.YtndlfieignhjjaaDoor
