
/-
  A scheduler in the world: its block, its rows, its streams.
-/
import Derived.Test.YtbekaeahedkeoaaSch
import Derived.Test.YtbekaeahedkeoaaAuto2
namespace Go.Proofs.Ytbekaeahedkeoaa
open Go.RowKit Go.Sl

def Fl.cs (f : Fl) : List Value := [.int .i64 f.id, .int .i64 f.win, .int .i64 f.wait, .bool f.fin]
def flA (L : List (Nat × Fl)) : Assn := L.foldr (fun p A => blk p.1 p.2.cs * A) emp
def ptrs (L : List (Nat × Fl)) : List Value := L.map fun p => .pointer (some ⟨p.1, 0, none⟩)
def ctA (C : List (Value × List UInt8)) : Assn := C.foldr (fun p A => sl 1 p.1 p.2.length (bs p.2) * A) emp

theorem flA_cons (p : Nat × Fl) (L : List (Nat × Fl)) : flA (p :: L) = blk p.1 p.2.cs * flA L := rfl
theorem flA_app (L K : List (Nat × Fl)) : flA (L ++ K) = flA L * flA K := by
  induction L with
  | nil => exact (emp_star _).symm
  | cons p L ih => rw [List.cons_append, flA_cons, flA_cons, ih, star_assoc]
theorem flA_at (L K : List (Nat × Fl)) (p : Nat × Fl) : flA (L ++ p :: K) = blk p.1 p.2.cs * flA (L ++ K) := by
  rw [flA_app, flA_app, flA_cons]; ac_rfl
theorem ptrs_len (L : List (Nat × Fl)) : (ptrs L).length = L.length := by simp [ptrs]
theorem ptrs_app (L K : List (Nat × Fl)) : ptrs (L ++ K) = ptrs L ++ ptrs K := by simp [ptrs]
theorem ctA_cons (p : Value × List UInt8) (C : List (Value × List UInt8)) : ctA (p :: C) = sl 1 p.1 p.2.length (bs p.2) * ctA C := rfl
theorem ctA_app (C D : List (Value × List UInt8)) : ctA (C ++ D) = ctA C * ctA D := by
  induction C with
  | nil => exact (emp_star _).symm
  | cons p C ih => rw [List.cons_append, ctA_cons, ctA_cons, ih, star_assoc]

def scCs (vc vq : Value) (s : Sc) : List Value := [vc, vq, .int .i64 s.win, .int .i64 s.frame]
abbrev Row (q : List Fl) := { L : List (Nat × Fl) // L.map Prod.snd = q }
abbrev Cts (c : List (List UInt8)) := { C : List (Value × List UInt8) // C.map Prod.snd = c }
def schA (a : Nat) (s : Sc) : Assn := ex fun p : (Value × Value) × Row s.q × Cts s.ctl =>
  blk a (scCs p.1.1 p.1.2 s) * (sl 1 p.1.1 p.2.2.1.length (p.2.2.1.map Prod.fst) * (sl 1 p.1.2 p.2.1.1.length (ptrs p.2.1.1) * (ctA p.2.2.1 * flA p.2.1.1)))

section
variable {B w : World} {A R : Assn} {a : Nat} {s : Sc}

theorem sch_open (h : Own B (schA a s * R) w) : ∃ (vc vq : Value) (L : List (Nat × Fl)) (C : List (Value × List UInt8)), L.map Prod.snd = s.q ∧ C.map Prod.snd = s.ctl ∧
    Own B (blk a (scCs vc vq s) * (sl 1 vc C.length (C.map Prod.fst) * (sl 1 vq L.length (ptrs L) * (ctA C * (flA L * R))))) w := by
  obtain ⟨⟨⟨vc, vq⟩, ⟨L, hL⟩, ⟨C, hC⟩⟩, g⟩ := own_ex h
  exact ⟨vc, vq, L, C, hL, hC, g.eq (by ac_rfl)⟩
theorem sch_close {vc vq : Value} {L : List (Nat × Fl)} {C : List (Value × List UInt8)} {cs : List Value} (s : Sc)
    (h : Own B (blk a cs * (sl 1 vc C.length (C.map Prod.fst) * (sl 1 vq L.length (ptrs L) * (ctA C * (flA L * R))))) w) (hc : cs = scCs vc vq s) (hL : L.map Prod.snd = s.q) (hC : C.map Prod.snd = s.ctl) : Own B (schA a s * R) w := by
  subst hc
  exact own_ex_mk (f := fun p : (Value × Value) × Row s.q × Cts s.ctl => blk a (scCs p.1.1 p.1.2 s) * (sl 1 p.1.1 p.2.2.1.length (p.2.2.1.map Prod.fst) * (sl 1 p.1.2 p.2.1.1.length (ptrs p.2.1.1) * (ctA p.2.2.1 * flA p.2.1.1)))) ⟨(vc, vq), ⟨L, hL⟩, ⟨C, hC⟩⟩ (h.eq (by ac_rfl))
end
end Go.Proofs.Ytbekaeahedkeoaa
