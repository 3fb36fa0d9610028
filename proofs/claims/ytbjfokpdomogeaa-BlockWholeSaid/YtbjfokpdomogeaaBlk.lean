
/-
  The assembler of header blocks: what each of its methods does.
-/
import Derived.Test.YtbjfokpdomogeaaRows
import Derived.Test.YtbjfokpdomogeaaMix
import Derived.Test.YtbjfokpdomogeaaStructs
import Derived.BigQuiet
import Derived.Lib.Hide
import Derived.Maps.RangeWalk
namespace Go.Proofs.Ytbjfokpdomogeaa
open Go.RowKit Go.Sl

/-- a frame, with its two slices as values -/
structure Fr where
  kind : Int
  stream : Int
  fin : Bool
  eh : Bool
  ack : Bool
  prio : Bool
  pay : Value
  flags : Int
  pad : Int
  dep : Int
  excl : Bool
  weight : Int
  code : Int
  lst : Value
  last : Int
  inc : Int

def Fr.cs (f : Fr) : List Value := [.int .i64 f.kind, .int .i64 f.stream, .bool f.fin, .bool f.eh, .bool f.ack, .bool f.prio, f.pay, .int .i64 f.flags, .int .i64 f.pad, .int .i64 f.dep, .bool f.excl, .int .i64 f.weight, .int .u32 f.code, f.lst, .int .i64 f.last, .int .i64 f.inc]

/-- with this slice as its payload -/
def Fr.payed (f : Fr) (v : Value) : Fr := { f with pay := v }

def Fr.zero : Fr := ⟨0, 0, false, false, false, false, .slice none 0 0, 0, 0, 0, false, 0, 0, .slice none 0 0, 0, 0⟩

/-- an assembler: its bound, the open block's first frame with its octets, the parts, the fault's code (0: none) -/
structure Asm where
  most : Nat
  first : Option (Fr × List UInt8)
  parts : Nat
  broken : Option Nat

def Asm.len (s : Asm) : Nat := match s.first with | none => 0 | some (_, l) => l.length

def faultCs (c : Option Nat) : List Value := match c with | none => [.bool false, .int .u32 0, .int .i64 0] | some c => [.bool true, .int .u32 c, .int .i64 0]

def asmA (a : Nat) (s : Asm) : Assn :=
  match s.first with
  | none => blk a (.int .i64 s.most :: .pointer none :: .int .i64 s.parts :: faultCs s.broken)
  | some (f, l) => ex fun b => ex fun v => blk a (.int .i64 s.most :: .pointer (some ⟨b, 0, none⟩) :: .int .i64 s.parts :: faultCs s.broken) * (blk b (f.payed v).cs * sl 1 v l.length (bs l))

section
variable {B w : World} {A R : Assn} {a : Nat} {s : Asm}

theorem asm_none {m p : Nat} {br : Option Nat} : asmA a ⟨m, none, p, br⟩ = blk a (.int .i64 m :: .pointer none :: .int .i64 p :: faultCs br) := rfl

theorem asm_some {m p : Nat} {br : Option Nat} {f : Fr} {l : List UInt8} : asmA a ⟨m, some (f, l), p, br⟩ = ex fun b => ex fun v => blk a (.int .i64 m :: .pointer (some ⟨b, 0, none⟩) :: .int .i64 p :: faultCs br) * (blk b (f.payed v).cs * sl 1 v l.length (bs l)) := rfl

theorem newBlk (n : Int) (h : Own B A w) : Calls Try.prog 9 #[.int .i64 n] w fun e w' => ∃ a, e = .returned (.pointer (some ⟨a, 0, none⟩)) ∧ Own B (asmA a ⟨n.toNat, none, 0, none⟩ * A) w' := by
  go_enter Try.func9, Try.ntmps9
  go_wp2
  go_ret
  refine ⟨_, rfl, ?_⟩
  have g := own_new h [.int .i64 (max 0 n), .pointer none, .int .i64 0, .bool false, .int .u32 0, .int .i64 0] 51
  have e : ((n.toNat : Nat) : Int) = max 0 n := by omega
  rw [asm_none, e]
  exact g

theorem lenBlk (h : Own B (asmA a s * R) w) : Calls Try.prog 12 #[.pointer (some ⟨a, 0, none⟩)] w fun e w' => e = .returned (.int .i64 s.len) ∧ Own B (asmA a s * R) w' := by
  obtain ⟨m, fi, p, br⟩ := s
  cases fi with
  | none =>
    rw [asm_none] at *
    have c1 := h.cell a 1 rfl w h
    go_enter Try.func12, Try.ntmps12
    go_wp2
    go_ret
    exact ⟨rfl, h⟩
  | some fl =>
    obtain ⟨f, l⟩ := fl
    rw [asm_some] at *
    obtain ⟨b, g⟩ := own_ex h
    obtain ⟨v, g⟩ := own_ex g
    have c1 := g.cell a 1 rfl w g
    obtain ⟨po, cap, rfl, i1, i2⟩ := g.hdr v
    have c2 := g.cell b 6 (v := .slice po l.length cap) rfl w g
    go_enter Try.func12, Try.ntmps12
    go_wp2
    go_ret
    exact ⟨rfl, h⟩

/-- what a frame of n octets breaks -/
def Asm.wrong (s : Asm) (f : Fr) (n : Nat) : Nat :=
  match s.first with
  | none => if f.kind = 9 then 1 else if s.most < n ∧ f.kind = 1 then 11 else 0
  | some (g, l) => if f.kind ≠ 9 ∨ f.stream ≠ g.stream then 1 else if s.parts = 32 ∨ s.most < n + l.length then 11 else 0

def isHdr (v : Value) (n : Nat) : Prop := ∃ po cap, v = .slice po n cap ∧ n ≤ cap ∧ cap ≤ maxLen

theorem wrongBlk {f : Fr} {n : Nat} (h : Own B (asmA a s * R) w) (hp : isHdr f.pay n) (hl : n ≤ 140737488351232) (hs : s.len ≤ 140737488351232) :
    Calls Try.prog 16 #[.pointer (some ⟨a, 0, none⟩), .agg f.cs.toArray] w fun e w' => e = .returned (.int .u32 (s.wrong f n)) ∧ Own B (asmA a s * R) w' := by
  obtain ⟨fk, fs, fe, fh, fa, fp, pay, ffl, fpad, fdep, fex, fwt, fco, flst, fla, fin⟩ := f
  obtain ⟨po, cap, rfl, i1, i2⟩ := hp
  unfold maxLen at i2
  have g := (own_new h (Fr.cs ⟨fk, fs, fe, fh, fa, fp, .slice po n cap, ffl, fpad, fdep, fex, fwt, fco, flst, fla, fin⟩) 32).eq (star_left_comm _ _ _)
  have hsz : s.len ≤ 140737488351232 := hs
  generalize hfr : w.heap.size = fr at *
  have c6 := g.cell fr 6 rfl
  have c0 := g.cell fr 0 rfl _ g
  go_enter Try.func16, Try.ntmps16
  go_wp2_with fail
  refine wp_region_mix (List.replicate 4 0 ++ (1 :: List.replicate 2 0)) (Own B _) (by kernel_rfl) (by kernel_rfl) (own_drew g) ?_
  refine mix_calm 4 ((own_drew g)) (by rfl) (by rfl) ?_
  intro ι W hne hW
  dsimp only [List.take, List.drop]
  have c6 := fun i => c6 _ (hW i)
  repeat (first | ((with_reducible refine atq_load ?_); first | (refine wpq_load hW rfl rfl rfl rfl ?_; go_frame) | (refine wpq_loadB hW rfl rfl rfl (by rfl) ?_; go_frame) | (refine wpq_loadS hW rfl rfl rfl (by rfl) ?_; simp only [List.drop_succ_cons, List.drop_zero, List.take_succ_cons, List.take_zero]; go_frame)) | (fail) | go_big_quiet_step (fail))
  refine wpQuiet_nil ?_
  clear c6 hW hne W ι
  refine mix_loud rfl (fun K hK => ?_)
  go_wp2_with fail
  refine (lenBlk (own_drew g)).mono ?_
  rintro e w2 ⟨rfl, g2⟩
  refine hK _ _ ⟨g2, ?_⟩
  clear hK
  try go_frame
  refine mix_calm 2 (g2) (by rfl) (by rfl) ?_
  intro ι W hne hW
  dsimp only [List.take, List.drop]
  repeat (first | ((with_reducible refine atq_load ?_); first | (refine wpq_load hW rfl rfl rfl rfl ?_; go_frame) | (refine wpq_loadB hW rfl rfl rfl (by rfl) ?_; go_frame) | (refine wpq_loadS hW rfl rfl rfl (by rfl) ?_; simp only [List.drop_succ_cons, List.drop_zero, List.take_succ_cons, List.take_zero]; go_frame)) | (fail) | go_big_quiet_step (fail))
  refine wpQuiet_nil ?_
  clear  hW hne W ι
  refine mix_nil ?_
  clear c6 c0 g
  obtain ⟨N, hN⟩ : ∃ N, s.len = N := ⟨_, rfl⟩
  rw [hN] at hs ⊢
  clear hsz
  obtain ⟨m, fi, p, br⟩ := s
  cases fi with
  | none =>
    obtain rfl : 0 = N := hN
    rw [asm_none] at g2
    have c0 := g2.cell fr 0 rfl
    have d0 := g2.cell a 0 rfl
    have d1 := g2.cell a 1 rfl
    have x1 := d1 _ g2
    by_cases hk : fk = 9
    · go_wp2
      go_ret
      exact ⟨by simp [Asm.wrong, hk], g2.skip⟩
    · go_wp2_with fail
      refine wp_region_calm (C := Own _ _) (by kernel_rfl) (by kernel_rfl) (own_drew g2) ?_
      intro ι W hne hW hs
      have d1 := fun i => d1 _ (hW i)
      repeat (first | ((with_reducible refine atq_load ?_); first | (refine wpq_load hW rfl rfl rfl rfl ?_; go_frame) | (refine wpq_loadB hW rfl rfl rfl (by rfl) ?_; go_frame) | (refine wpq_loadS hW rfl rfl rfl (by rfl) ?_; simp only [List.drop_succ_cons, List.drop_zero, List.take_succ_cons, List.take_zero]; go_frame)) | (fail) | go_big_quiet_step (fail))
      refine wpQuiet_nil ?_
      intro i
      have g3 := hW i
      generalize W i = wg3 at g3 ⊢
      clear d1 hs hW hne
      have x0 := d0 _ g3
      have x1 := d1 _ g3
      have y0 := c0 _ g3
      by_cases hm : m < n
      · by_cases hk1 : fk = 1
        · go_wp2
          go_ret
          exact ⟨by simp [Asm.wrong, hk1, hm], g3.skip⟩
        · go_wp2
          go_ret
          exact ⟨by simp [Asm.wrong, hk, hk1], g3.skip⟩
      · go_wp2
        go_ret
        exact ⟨by simp [Asm.wrong, hk, hm], g3.skip⟩
  | some fl =>
    obtain ⟨⟨gk, gs, ge, gh, ga, gp, gpay, gfl, gpad, gdep, gex, gwt, gco, glst, gla, gin⟩, l⟩ := fl
    obtain rfl : l.length = N := hN
    rw [asm_some] at g2
    obtain ⟨b, g3⟩ := own_ex g2
    obtain ⟨v, g4⟩ := own_ex g3
    have c0 := g4.cell fr 0 rfl
    have c1 := g4.cell fr 1 rfl
    have d0 := g4.cell a 0 rfl
    have d1 := g4.cell a 1 rfl
    have d2 := g4.cell a 2 rfl
    have e1 := g4.cell b 1 (v := .int .i64 gs) rfl
    have x1 := d1 _ g4
    have back : ∀ w', Own B (blk a (.int .i64 m :: .pointer (some ⟨b, 0, none⟩) :: .int .i64 p :: faultCs br) * (blk b (Fr.payed ⟨gk, gs, ge, gh, ga, gp, gpay, gfl, gpad, gdep, gex, gwt, gco, glst, gla, gin⟩ v).cs * sl 1 v l.length (bs l)) * (blk fr (Fr.cs ⟨fk, fs, fe, fh, fa, fp, .slice po n cap, ffl, fpad, fdep, fex, fwt, fco, flst, fla, fin⟩) * R)) w' →
        Own B (asmA a ⟨m, some (⟨gk, gs, ge, gh, ga, gp, gpay, gfl, gpad, gdep, gex, gwt, gco, glst, gla, gin⟩, l), p, br⟩ * R) w' := fun w' h => (own_ex_mk b (own_ex_mk v h)).skip
    by_cases hk : fk = 9
    · subst hk
      by_cases hs' : fs = gs
      · subst hs'
        go_wp2_with fail
        refine wp_region_calm (C := Own _ _) (by kernel_rfl) (by kernel_rfl) (own_drew g4) ?_
        intro ι W hne hW hs
        have c0 := fun i => c0 _ (hW i)
        have c1 := fun i => c1 _ (hW i)
        have d1 := fun i => d1 _ (hW i)
        have e1 := fun i => e1 _ (hW i)
        repeat (first | ((with_reducible refine atq_load ?_); first | (refine wpq_load hW rfl rfl rfl rfl ?_; go_frame) | (refine wpq_loadB hW rfl rfl rfl (by rfl) ?_; go_frame) | (refine wpq_loadS hW rfl rfl rfl (by rfl) ?_; simp only [List.drop_succ_cons, List.drop_zero, List.take_succ_cons, List.take_zero]; go_frame)) | (fail) | go_big_quiet_step (fail))
        refine wpQuiet_nil ?_
        intro i
        have g5 := hW i
        generalize W i = wg5 at g5 ⊢
        clear c0 c1 d1 e1 hs hW hne
        have x0 := d0 _ g5
        have x1 := d1 _ g5
        have x2 := d2 _ g5
        have y0 := c0 _ g5
        by_cases h32 : p = 32
        · subst h32
          go_wp2
          go_ret
          exact ⟨by simp [Asm.wrong], back _ g5⟩
        · have h32' : ¬ (p : Int) = 32 := by omega
          by_cases hm : m < n + l.length
          · have hm' : (m : Int) < n + l.length := by omega
            go_wp2
            go_ret
            exact ⟨by simp [Asm.wrong, hm], back _ g5⟩
          · have hm' : ¬ (m : Int) < n + l.length := by omega
            go_wp2
            go_ret
            exact ⟨by simp [Asm.wrong, hm, h32], back _ g5⟩
      · go_wp2_with fail
        refine wp_region_calm (C := Own _ _) (by kernel_rfl) (by kernel_rfl) (own_drew g4) ?_
        intro ι W hne hW hs
        have c0 := fun i => c0 _ (hW i)
        have c1 := fun i => c1 _ (hW i)
        have d1 := fun i => d1 _ (hW i)
        have e1 := fun i => e1 _ (hW i)
        repeat (first | ((with_reducible refine atq_load ?_); first | (refine wpq_load hW rfl rfl rfl rfl ?_; go_frame) | (refine wpq_loadB hW rfl rfl rfl (by rfl) ?_; go_frame) | (refine wpq_loadS hW rfl rfl rfl (by rfl) ?_; simp only [List.drop_succ_cons, List.drop_zero, List.take_succ_cons, List.take_zero]; go_frame)) | (fail) | go_big_quiet_step (fail))
        refine wpQuiet_nil ?_
        intro i
        have g5 := hW i
        generalize W i = wg5 at g5 ⊢
        clear c0 c1 d1 e1 hs hW hne
        go_wp2
        go_ret
        exact ⟨by simp [Asm.wrong, hs'], back _ g5⟩
    · have hb : (fk == 9) = false := by simp [hk]
      rw [hb]
      go_wp2_with fail
      refine wp_region_calm (C := Own _ _) (by kernel_rfl) (by kernel_rfl) (own_drew g4) ?_
      intro ι W hne hW hs
      have c0 := fun i => c0 _ (hW i)
      have c1 := fun i => c1 _ (hW i)
      have d1 := fun i => d1 _ (hW i)
      have e1 := fun i => e1 _ (hW i)
      repeat (first | ((with_reducible refine atq_load ?_); first | (refine wpq_load hW rfl rfl rfl rfl ?_; go_frame) | (refine wpq_loadB hW rfl rfl rfl (by rfl) ?_; go_frame) | (refine wpq_loadS hW rfl rfl rfl (by rfl) ?_; simp only [List.drop_succ_cons, List.drop_zero, List.take_succ_cons, List.take_zero]; go_frame)) | (fail) | go_big_quiet_step (fail))
      refine wpQuiet_nil ?_
      intro i
      have g5 := hW i
      generalize W i = wg5 at g5 ⊢
      clear c0 c1 d1 e1 hs hW hne
      go_wp2
      go_ret
      exact ⟨by simp [Asm.wrong, hk], back _ g5⟩
end
end Go.Proofs.Ytbjfokpdomogeaa
