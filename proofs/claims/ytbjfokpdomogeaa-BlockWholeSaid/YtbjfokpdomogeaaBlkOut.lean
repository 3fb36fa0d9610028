
/-
  Step by what it tells: one contract for each outcome.
-/
import Derived.Test.YtbjfokpdomogeaaBlkAll
import Derived.Test.YtbjfokpdomogeaaBlkOpen
namespace Go.Proofs.Ytbjfokpdomogeaa
open Go.RowKit Go.Sl

section
variable {B w : World} {A R : Assn} {a : Nat} {s s' : Asm} {f : Fr} {l : List UInt8} {nl : Nat} {lc : List Value}

/-- what Step asks of its world and its arguments -/
structure Can (B w : World) (R : Assn) (a : Nat) (s : Asm) (f : Fr) (l : List UInt8) (nl : Nat) (lc : List Value) : Prop where
  own : Own B (asmA a s * R) w
  pay : ∀ w, Own B R w → rd w 1 f.pay l.length (bs l)
  lst : ∀ w, Own B R w → rd w 2 f.lst nl lc
  one : ∀ y ∈ lc, y.oneCell' = true
  len : l.length ≤ 70368744177664
  num : nl * 16 ≤ 140737488355328
  held : s.len ≤ 70368744177664
  parts : s.parts ≤ 32
  first : ∀ g k, s.first = some (g, k) → g.lst.oneCell' = true

theorem Can.step (h : Can B w R a s f l nl lc) : Calls Try.prog 10 #[.pointer (some ⟨a, 0, none⟩), .agg f.cs.toArray] w (stepPost B a f l nl lc R (s.step f l)) :=
  stepBlk h.own h.pay h.lst h.one h.len h.num h.held h.parts h.first

theorem Can.fault (h : Can B w R a s f l nl lc) {c : Nat} (e : s.step f l = (s', .fault c)) : Calls Try.prog 10 #[.pointer (some ⟨a, 0, none⟩), .agg f.cs.toArray] w fun r w' => r = .returned (.tuple #[.agg zeroCs.toArray, .bool false, .agg #[.bool true, .int .u32 c, .int .i64 0]]) ∧ Own B (asmA a s' * R) w' := by
  have := h.step; rw [e] at this; exact this
theorem Can.more (h : Can B w R a s f l nl lc) (e : s.step f l = (s', .more)) : Calls Try.prog 10 #[.pointer (some ⟨a, 0, none⟩), .agg f.cs.toArray] w fun r w' => r = .returned (.tuple #[.agg zeroCs.toArray, .bool false, .agg #[.bool false, .int .u32 0, .int .i64 0]]) ∧ Own B (asmA a s' * R) w' := by
  have := h.step; rw [e] at this; exact this
theorem Can.whole (h : Can B w R a s f l nl lc) {g : Fr} {k : List UInt8} (e : s.step f l = (s', .whole g k)) : Calls Try.prog 10 #[.pointer (some ⟨a, 0, none⟩), .agg f.cs.toArray] w fun r w' => ∃ v, r = .returned (.tuple #[.agg ({ g with pay := v, eh := true } : Fr).cs.toArray, .bool true, .agg #[.bool false, .int .u32 0, .int .i64 0]]) ∧ Own B (asmA a s' * (sl 1 v k.length (bs k) * R)) w' := by
  have := h.step; rw [e] at this; exact this
theorem Can.pass (h : Can B w R a s f l nl lc) (e : s.step f l = (s', .pass)) : Calls Try.prog 10 #[.pointer (some ⟨a, 0, none⟩), .agg f.cs.toArray] w fun r w' => ∃ v vl, r = .returned (.tuple #[.agg ({ f with pay := v, lst := vl } : Fr).cs.toArray, .bool true, .agg #[.bool false, .int .u32 0, .int .i64 0]]) ∧ Own B (asmA a s' * (sl 1 v l.length (bs l) * (sl 2 vl nl lc * R))) w' := by
  have := h.step; rw [e] at this; exact this
end
end Go.Proofs.Ytbjfokpdomogeaa
