




/-
  The world of a moment as the ground of what follows: a block of it is read as old memory.
-/
import Derived.Test.YtjcpfldobiekbaaDoorRtSh2
namespace Go.Sl
open Go Go.RowKit Go.ChangeShapes Go.BigFrame

/-- in w, block b reads as cs -/
def OldBlk (w : World) (b : Nat) (cs : List Value) : Prop := ∀ (i : Nat) v, cs[i]? = some v → w.cell? ⟨b, i, none⟩ = some v
theorem oldBlk_of {B w : World} {R : Assn} {b : Nat} {cs : List Value} (h : Own B (blk b cs * R) w) : OldBlk w b cs := fun i v hv => by rw [own_cell h i]; exact hv
theorem OldBlk.old {w1 w : World} {A : Assn} {b : Nat} {cs : List Value} (h : OldBlk w1 b cs) (G : Own w1 A w) : OldBlk w b cs := fun i v hv => by
  have hc := h i v hv
  exact (own_old G (World.block_lt_of_cell? w1 _ hc)).trans hc
theorem own_shift {w0 w1 w : World} {X A : Assn} (h : Own w0 X w1) (G : Own w1 A w) : Below w0.heap.size w0 w := (Go.Proofs.YtjcpfldobiekbaaDoor.own_kept h G.1).below

section
variable {P : Program} {w : World} {ops : Array Oper} {Q : Exit → Act → World → Prop} {rest : List Oper} {o : Oper} {a : Act} {T : TypeId} {ad : Operand} {b i n : Nat} {cs : List Value} {v : Value}
theorem wpu_loadO (h : OldBlk w b cs) (ho : o.op = .load T ad) (hw : Region.wanted o (yielded ops a.tmps) = true) (ha' : evalO a ad = some (.pointer (some ⟨b, i, none⟩))) [hT : TyOne P T] (hv : cs[i]? = some v)
    (k : wpList P ops Q rest (a.put o.dst v) w) : wpList P ops Q (o :: rest) a w :=
  wpu_val hw (exec_load ho (evalO_eq ha') (run_loadVar_one (h i v hv))) k
theorem run_loadVar_old [hT : TyS P T n] (h : OldBlk w b cs) (hl : cs.length = n) : (loadVar T ⟨b, 0, none⟩).run P w = .ok (.agg cs.toArray) w := by
  obtain ⟨fs, hf⟩ := hT.str
  cases hq : P.info? T with
  | none => have := hT.size; rw [hq] at this; cases this
  | some inf =>
    have hT' := hT.size
    rw [hq] at hT'
    have hsz : inf.size = cs.length := by rw [hl]; simpa using hT'
    have hst : (loadCells ⟨b, 0, none⟩ cs.length).run P w = .ok cs.toArray w := run_loadCells_list _ _ _ fun j v hj => by
      rw [Addr.add_lit, Nat.zero_add]
      exact h j v hj
    simp [loadVar, isAgg, run_underlying hf, sizeOf, typeInfo, hq, hsz, hst]
theorem wpu_loadOB (h : OldBlk w b cs) (ho : o.op = .load T ad) (hw : Region.wanted o (yielded ops a.tmps) = true) (ha' : evalO a ad = some (.pointer (some ⟨b, 0, none⟩))) [hT : TyS P T n] (hl : cs.length = n)
    (k : wpList P ops Q rest (a.put o.dst (.agg cs.toArray)) w) : wpList P ops Q (o :: rest) a w :=
  wpu_val hw (exec_load ho (evalO_eq ha') (run_loadVar_old h hl)) k
theorem wpq_loadOB {ι : Type} {W : ι → World} {q : Act → Prop} (h : ∀ i, OldBlk (W i) b cs) (ho : o.op = .load T ad) (hw : Region.wanted o (yielded ops a.tmps) = true) (ha' : evalO a ad = some (.pointer (some ⟨b, 0, none⟩))) [hT : TyS P T n] (hl : cs.length = n)
    (k : wpQuiet P ops (fun w' => ∃ i, w' = W i) q rest (a.put o.dst (.agg cs.toArray))) : wpQuiet P ops (fun w' => ∃ i, w' = W i) q (o :: rest) a :=
  wpq_val hw (fun i => exec_load ho (evalO_eq ha') (run_loadVar_old (h i) hl)) k
end
end Go.Sl
