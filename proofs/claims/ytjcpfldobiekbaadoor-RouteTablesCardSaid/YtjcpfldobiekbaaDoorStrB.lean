




/-
  Strings into octets of one's own.
-/
import Derived.Test.YtjcpfldobiekbaaDoorStr
import Derived.Test.YtjcpfldobiekbaaDoorSlSet
import Derived.Lib.ConvBytes
import Derived.Laws.AppendOwn
namespace Go.Sl
open Go Go.RowKit Go.ChangeShapes Go.BigFrame

section
variable {P : Program} {B w : World} {A R : Assn} {ops : Array Oper} {Q : Exit → Act → World → Prop} {rest : List Oper} {o : Oper} {a : Act} {K : Act → World → Prop} {S D T : TypeId} {x ad : Operand} {l : List UInt8} {v : Value}

theorem own_freeze {b : Nat} {cs : List Value} (h : Own B (blk b cs * R) w) : Own B (blk b cs * R) (w.freeze ⟨b, cs.length, none⟩ 1) := by
  obtain ⟨T, fr, hf, hg, hb⟩ := own_blk_at h
  obtain ⟨lo, hi⟩ := fr
  refine own_turn (o' := .cells cs.toArray T (if lo == hi then (cs.length, cs.length + 1) else (min lo cs.length, max hi (cs.length + 1)))) blk_one (fun h e => ⟨T, _, ?_, e⟩) h (Lib.below_freeze h.1 hb 1) ?_ (fun c hc => ?_)
  · by_cases e : lo = hi
    · simp [e]
    · simp [e] at hf ⊢; omega
  · have e : ¬ (1 = 0) := by decide
    simp only [World.freeze, if_neg e]
    rw [Array.getElem?_modify, if_pos rfl, hg]
    rfl
  · simp [World.freeze, Array.getElem?_modify, Ne.symm hc]

/-- []byte(s) -/
theorem wpu_toBytes (h : Own B A w) [hS : TyStr P S] [hD : TyBytes P D] (ho : o.op = .convert S D x) (hw : Region.wanted o (yielded ops a.tmps) = true) (hx' : evalO a x = some (str l)) (hl : l.length ≤ maxLen)
    (k : ∀ v w', Own B (sl 1 v l.length (bs l) * A) w' → wpList P ops Q rest (a.put o.dst v) w') : wpList P ops Q (o :: rest) a w := by
  obtain ⟨e, h1, h2⟩ := hD.out
  have hr := Lib.run_convert_string_bytes (P := P) w S D e ⟨l.toArray⟩ hS.out h1 h2
  have hs : (ByteArray.mk l.toArray).size = l.length := str_size l
  rw [hs] at hr
  refine wpu_val hw (v := .slice (some ⟨w.heap.size, 0, none⟩) l.length (grownCap w l.length 0 e)) (w' := Lib.bytesWorld w e ⟨l.toArray⟩) ?_ (k _ _ ?_)
  · unfold execOp
    rw [ho]
    simp [evalO_eq hx', hr]
  · have hge := grownCap_ge w l.length 0 e
    have hcells : (Lib.bytesCells w e ⟨l.toArray⟩).toList = bs l ++ List.replicate (grownCap w l.length 0 e - l.length) (Value.int .u8 0) := by
      unfold Lib.bytesCells
      rw [hs]
      simp [bs, byteV]
    have hlen : (Lib.bytesCells w e ⟨l.toArray⟩).size = (bs l ++ List.replicate (grownCap w l.length 0 e - l.length) (Value.int .u8 0)).length := by
      rw [← hcells, Array.length_toList]
    have hG := own_freeze (own_new (own_drew h) (bs l ++ List.replicate (grownCap w l.length 0 e - l.length) (Value.int .u8 0)) e)
    have hw2 : Lib.bytesWorld w e ⟨l.toArray⟩ = (w.drew.alloc (.cells (bs l ++ List.replicate (grownCap w l.length 0 e - l.length) (Value.int .u8 0)).toArray e)).freeze ⟨w.drew.heap.size, (bs l ++ List.replicate (grownCap w l.length 0 e - l.length) (Value.int .u8 0)).length, none⟩ 1 := by
      unfold Lib.bytesWorld
      rw [hlen, ← hcells, Array.toArray_toList]
      rfl
    rw [hw2]
    exact own_sl_mk hge (grownCap_le_maxLen w l.length 0 e hl) (by simp [bs]) (by simp [bs]; omega) (by rw [List.drop_zero, Nat.mul_one, List.take_left' (by simp [bs])]) hG

/-- an octet written -/
theorem wpu_store1 {s : Addr} {cap n k : Nat} {xs : List Value} {A A' : Assn} (h : Own B A w) [tk : TakeSl (.slice (some s) n cap) 1 n xs A A'] (ho : o.op = .store T ad x) (hw : Region.wanted o (yielded ops a.tmps) = true) (ha' : evalO a ad = some (.pointer (some (s.add k)))) (hx' : evalO a x = some v) [hT : TyOne P T] (h1 : v.oneCell' = true) (hp : k < n)
    (kk : ∀ w', Own B (sl 1 (.slice (some s) n cap) n (xs.set k v) * A') w' → wpList P ops Q rest (a.put o.dst undef) w') : wpList P ops Q (o :: rest) a w := by
  obtain ⟨w', hr, g⟩ := exec_storeF (P := P) (cap := cap) (sz := 1) (n := n) h ho ha' hx' h1 (by omega)
  exact wpu_skip hw hr (kk w' g)
end
end Go.Sl
