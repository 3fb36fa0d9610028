
/-
  The assembler of header blocks: what Open does.
-/
import Derived.Test.YtbjfokpdomogeaaBlk
namespace Go.Proofs.Ytbjfokpdomogeaa
open Go.RowKit Go.Sl

section
variable {B w : World} {A R : Assn} {a : Nat} {s : Asm}

def Asm.opened (s : Asm) : Value := match s.first with | none => .tuple #[.int .i64 0, .bool false] | some (g, _) => .tuple #[.int .i64 g.stream, .bool true]

theorem openBlk (h : Own B (asmA a s * R) w) : Calls Try.prog 15 #[.pointer (some ⟨a, 0, none⟩)] w fun e w' => e = .returned s.opened ∧ Own B (asmA a s * R) w' := by
  obtain ⟨m, fi, p, br⟩ := s
  cases fi with
  | none =>
    rw [asm_none] at *
    have c1 := h.cell a 1 rfl w h
    go_enter Try.func15, Try.ntmps15
    go_wp2
    go_ret2
    exact ⟨rfl, h⟩
  | some fl =>
    obtain ⟨f, l⟩ := fl
    rw [asm_some] at *
    obtain ⟨b, g⟩ := own_ex h
    obtain ⟨v, g⟩ := own_ex g
    have c1 := g.cell a 1 rfl w g
    have c2 := g.cell b 1 (v := .int .i64 f.stream) rfl w g
    go_enter Try.func15, Try.ntmps15
    go_wp2
    go_ret2
    exact ⟨rfl, h⟩
end
end Go.Proofs.Ytbjfokpdomogeaa
