
/-
  The assembler of header blocks: what Step does.
-/
import Derived.Test.YtbjfokpdomogeaaBlk
import Derived.Test.YtbjfokpdomogeaaBytes
namespace Go.Proofs.Ytbjfokpdomogeaa
open Go.RowKit Go.Sl


section
variable {B w : World} {A R : Assn} {a : Nat} {s : Asm}

/-- what an assembler holds beside its own cells -/
def Asm.held (s : Asm) (p : Value) (X : Assn) : Prop :=
  (s.first = none ∧ p = .pointer none ∧ X = emp) ∨ ∃ f l b v, s.first = some (f, l) ∧ p = .pointer (some ⟨b, 0, none⟩) ∧ X = blk b (f.payed v).cs * sl 1 v l.length (bs l)

theorem asm_open (h : Own B (asmA a s * R) w) : ∃ p X, s.held p X ∧ Own B (blk a (.int .i64 s.most :: p :: .int .i64 s.parts :: faultCs s.broken) * (X * R)) w := by
  obtain ⟨m, fi, p, br⟩ := s
  cases fi with
  | none => exact ⟨_, emp, .inl ⟨rfl, rfl, rfl⟩, h.eq (by rw [asm_none, emp_star])⟩
  | some fl =>
    obtain ⟨f, l⟩ := fl
    rw [asm_some] at h
    obtain ⟨b, g⟩ := own_ex h
    obtain ⟨v, g⟩ := own_ex g
    exact ⟨_, _, .inr ⟨f, l, b, v, rfl, rfl, rfl⟩, g.eq (star_assoc _ _ _)⟩

theorem asm_close {p : Value} {X : Assn} (hp : s.held p X) (h : Own B (blk a (.int .i64 s.most :: p :: .int .i64 s.parts :: faultCs s.broken) * (X * R)) w) : Own B (asmA a s * R) w := by
  obtain ⟨m, fi, q, br⟩ := s
  rcases hp with ⟨rfl, rfl, rfl⟩ | ⟨f, l, b, v, rfl, rfl, rfl⟩
  · exact h.eq (by rw [asm_none, emp_star])
  · rw [asm_some]
    exact own_ex_mk b (own_ex_mk v (h.eq (star_assoc _ _ _).symm))

/-- a frame of zeroes -/
@[reducible] def zeroCs : List Value := [.int .i64 0, .int .i64 0, .bool false, .bool false, .bool false, .bool false, .slice none 0 0, .int .i64 0, .int .i64 0, .int .i64 0, .bool false, .int .i64 0, .int .u32 0, .slice none 0 0, .int .i64 0, .int .i64 0]

/-- what Step hands back -/
def stepRet (f : List Value) (ok : Bool) (c : Option Nat) : Ending := .returned (.tuple #[.agg f.toArray, .bool ok, .agg (faultCs c).toArray])

theorem stepBroken {f : Fr} {c : Nat} (hc : s.broken = some c) (h : Own B (asmA a s * R) w) :
    Calls Try.prog 10 #[.pointer (some ⟨a, 0, none⟩), .agg f.cs.toArray] w fun e w' => e = stepRet zeroCs false (some c) ∧ Own B (asmA a s * R) w' := by
  obtain ⟨p, X, hX, g⟩ := asm_open h
  rw [hc] at g
  have g1 := own_new (own_new (own_new g f.cs 32) zeroCs 32) [.bool false, .int .u32 0, .int .i64 0] 34
  rw [show ∀ w o, (World.alloc w o).heap.size = w.heap.size + 1 from fun w o => by simp, show ∀ w o, (World.alloc w o).heap.size = w.heap.size + 1 from fun w o => by simp] at g1
  generalize hn : w.heap.size = n at *
  have d3 := g1.cell a 3 (v := .bool true) rfl
  have d4 := g1.cell a 4 (v := .int .u32 c) rfl
  have d5 := g1.cell a 5 (v := .int .i64 0) rfl
  have x3 := d3 _ g1
  go_enter Try.func10, Try.ntmps10
  go_wp2_with fail
  have k3 : ∀ w', Own B _ w' → _ := g1.cell a 3 (v := .bool true) rfl
  have k4 : ∀ w', Own B _ w' → _ := g1.cell a 4 (v := .int .u32 c) rfl
  have k5 : ∀ w', Own B _ w' → _ := g1.cell a 5 (v := .int .i64 0) rfl
  refine wp_region_mix (List.replicate 5 0 ++ [1, 3, 2]) (fun w' => w'.cell? ⟨a, 3, none⟩ = some (.bool true) ∧ w'.cell? ⟨a, 4, none⟩ = some (.int .u32 c) ∧ w'.cell? ⟨a, 5, none⟩ = some (.int .i64 0)) (by kernel_rfl) (by kernel_rfl)
    ⟨k3 _ (own_drew g1), k4 _ (own_drew g1), k5 _ (own_drew g1)⟩ ?_
  refine mix_calm 5 (⟨k3 _ (own_drew g1),k4 _ (own_drew g1),k5 _ (own_drew g1)⟩) (by rfl) (by rfl) ?_
  intro ι W hne hW
  dsimp only [List.take, List.drop]
  repeat (first | ((with_reducible refine atq_load ?_); first | (refine wpq_load hW rfl rfl rfl rfl ?_; go_frame) | (refine wpq_loadB hW rfl rfl rfl (by rfl) ?_; go_frame) | (refine wpq_loadS hW rfl rfl rfl (by rfl) ?_; simp only [List.drop_succ_cons, List.drop_zero, List.take_succ_cons, List.take_zero]; go_frame)) | (fail) | go_big_quiet_step (fail))
  refine wpQuiet_nil ?_
  clear  hW hne W ι
  refine mix_loud rfl (fun K hK => ?_)
  refine wp_storeS (n + 1) 0 zeroCs (own_drew g1) rfl (by kernel_rfl) rfl rfl rfl rfl fun u2 q2 => hK _ _ ⟨⟨q2.cell a 3 rfl _ q2, q2.cell a 4 rfl _ q2, q2.cell a 5 rfl _ q2⟩, ?_⟩
  clear hK
  try go_frame
  refine mix_plain 1 (by rfl) (by rfl) ?_
  intro ι W hne
  dsimp only [List.take, List.drop]
  repeat (go_big_quiet_step (fail))
  refine wpQuiet_nil ?_
  clear hne W ι
  refine mix_last rfl (fun K hK => ?_)
  refine wp_storeS (n + 1 + 1) 0 [.bool true, .int .u32 c, .int .i64 0] q2 rfl (by kernel_rfl) rfl rfl rfl rfl fun u3 q3 => hK _ _ (mix_nil ?_)
  clear hK
  try go_frame
  go_wp2
  try simp only [Exit.inBlock, Exit.then]
  refine bodyPost_ret (results_ctc rfl rfl rfl (run_loadVar_blk (n + 1) 0 zeroCs q3 (by kernel_rfl) Try.underlying32 rfl) (run_loadVar_blk (n + 1 + 1) 0 [.bool true, .int .u32 c, .int .i64 0] q3 (by kernel_rfl) Try.underlying34 rfl)) rfl ⟨rfl, ?_⟩
  refine asm_close hX ?_
  rw [hc]
  exact q3.right.right.right

/-- what Step tells -/
inductive Out where
  | fault (c : Nat)
  | more
  | whole (f : Fr) (l : List UInt8)
  | pass

def Asm.step (s : Asm) (f : Fr) (l : List UInt8) : Asm × Out :=
  match s.broken with
  | some c => (s, .fault c)
  | none =>
    if s.wrong f l.length = 0 then
      match s.first with
      | some (g, lg) => if f.eh then (⟨s.most, none, s.parts + 1, none⟩, .whole g (lg ++ l)) else (⟨s.most, some (g, lg ++ l), s.parts + 1, none⟩, .more)
      | none => if f.kind = 1 then (if f.eh then (⟨s.most, none, 0, none⟩, .whole f l) else (⟨s.most, some (f, l), 0, none⟩, .more)) else (s, .pass)
    else (⟨s.most, none, s.parts, some (s.wrong f l.length)⟩, .fault (s.wrong f l.length))

def stepPost (B : World) (a : Nat) (f : Fr) (l : List UInt8) (nl : Nat) (lc : List Value) (R : Assn) (r : Asm × Out) (e : Ending) (w' : World) : Prop :=
  match r.2 with
  | .fault c => e = stepRet zeroCs false (some c) ∧ Own B (asmA a r.1 * R) w'
  | .more => e = stepRet zeroCs false none ∧ Own B (asmA a r.1 * R) w'
  | .whole g k => ∃ v, e = stepRet ({ g with pay := v, eh := true } : Fr).cs true none ∧ Own B (asmA a r.1 * (sl 1 v k.length (bs k) * R)) w'
  | .pass => ∃ v vl, e = stepRet ({ f with pay := v, lst := vl } : Fr).cs true none ∧ Own B (asmA a r.1 * (sl 1 v l.length (bs l) * (sl 2 vl nl lc * R))) w'

theorem asm_brk (h : Own B (asmA a s * R) w) {v : Value} (hv : (faultCs s.broken)[0]? = some v) : w.cell? ⟨a, 3, none⟩ = some v := by
  obtain ⟨p, X, hX, g⟩ := asm_open h
  exact g.cell a 3 (v := v) hv _ g

theorem wrongC {f : Fr} {n c : Nat} (h : Own B (asmA a s * R) w) (hp : isHdr f.pay n) (hl : n ≤ 140737488351232) (hs : s.len ≤ 140737488351232) (hc : s.wrong f n = c) :
    Calls Try.prog 16 #[.pointer (some ⟨a, 0, none⟩), .agg f.cs.toArray] w fun e w' => e = .returned (.int .u32 c) ∧ Own B (asmA a s * R) w' := by
  rw [← hc]
  exact wrongBlk h hp hl hs

end
end Go.Proofs.Ytbjfokpdomogeaa
