
/-
  Package match: letters.
-/
import Derived.Test.YtndlfieignhjjaaDoorMt8
import Derived.Test.YtndlfieignhjjaaDoorMtPl
import Derived.Test.YtndlfieignhjjaaDoorStrAdd
namespace Go.Proofs.YtndlfieignhjjaaDoor
open Go.RowKit Go.Sl Go.ChangeShapes

def mixF (f : UInt8 → UInt8) (j : Nat) (l : Txt) : Txt := (l.take j).map f ++ l.drop j
theorem mixF_end (f : UInt8 → UInt8) (l : Txt) : mixF f l.length l = l.map f := by unfold mixF; simp
theorem mixF_here {f : UInt8 → UInt8} {l : Txt} {j : Nat} {c : UInt8} (h : l[j]? = some c) : mixF f j l = (l.take j).map f ++ c :: l.drop (j + 1) := by
  have hj := (List.getElem?_eq_some_iff.1 h)
  unfold mixF
  rw [List.drop_eq_getElem_cons hj.1, hj.2]
theorem mixF_at {f : UInt8 → UInt8} {l : Txt} {j : Nat} {c : UInt8} (h : l[j]? = some c) : (mixF f j l)[j]? = some c := by
  have hj := (List.getElem?_eq_some_iff.1 h).1
  have hl : ((l.take j).map f).length = j := by simp; omega
  rw [mixF_here h, List.getElem?_append_right (by omega), hl, Nat.sub_self]
  rfl
theorem mixF_set {f : UInt8 → UInt8} {l : Txt} {j : Nat} {c : UInt8} (h : l[j]? = some c) : (mixF f j l).set j (f c) = mixF f (j + 1) l := by
  have hj := (List.getElem?_eq_some_iff.1 h).1
  have hl : ((l.take j).map f).length = j := by simp; omega
  rw [mixF_here h, List.set_append_right _ _ (by omega), hl, Nat.sub_self]
  unfold mixF
  rw [List.take_add_one, h]
  simp

set_option maxRecDepth 100000 in
theorem let_and (c : UInt8) : bits .and .u8 (c.toNat : Int) 31 = (((c &&& 31).toNat : Nat) : Int) ∧ table[(c &&& 31).toNat]? = some (letC c) := by
  have key : ∀ n : Fin 256, bits .and .u8 ((UInt8.ofNat n.val).toNat : Int) 31 = ((((UInt8.ofNat n.val) &&& 31).toNat : Nat) : Int) ∧ table[((UInt8.ofNat n.val) &&& 31).toNat]? = some (letC (UInt8.ofNat n.val)) := by decide
  have := key ⟨c.toNat, c.toNat_lt⟩
  simp only [UInt8.ofNat_toNat] at this
  exact this

def lettersL (l : Txt) : Txt := (cutT l).map letC
theorem letters_len (l : Txt) : (lettersL l).length ≤ 2000 := by unfold lettersL; rw [List.length_map]; exact cutT_len l
theorem letters_plain (l : Txt) : ∀ c ∈ lettersL l, plain c = true := by
  intro c hc
  obtain ⟨x, _, rfl⟩ := List.mem_map.1 hc
  exact let_plain x

set_option maxHeartbeats 8000000 in
set_option maxRecDepth 100000 in
theorem lettersC {B w : World} {A : Assn} {l : Txt} (hl : l.length ≤ 9223372036854775807) (h : Own B A w) :
    Calls Tryd.prog 20 #[str l] w fun e w' => e = .returned (str (lettersL l)) ∧ Own B A w' := by
  have k1 := cutT_len l
  have hcut := cutC hl h
  unfold lettersL
  obtain ⟨p, hp⟩ : ∃ x, cutT l = x := ⟨_, rfl⟩
  rw [hp] at k1 hcut ⊢
  clear hp
  go_enter Tryd.func20, Tryd.ntmps20
  go_wp2_with fail
  refine Calls.mono hcut ?_
  clear h hcut; rintro e w ⟨rfl, h⟩
  go_wp2_with (first
    | ((with_reducible refine at_convert ?_); refine wpu_toBytes h rfl rfl rfl (by unfold maxLen; omega) ?_; clear h; intro v w G; obtain ⟨ao, ac, rfl, j1, j2⟩ := G.hdr v; go_frame)
    | fail)
  go_loopw [4] (fun i wr => ∃ j : Nat, i = .int .i64 j ∧ j ≤ p.length ∧ Own B (sl 1 (.slice ao p.length ac) p.length (bs (mixF letC j p)) * A) wr) (fun i _ => p.length - (intOf i).toNat)
  case atStart => exact ⟨0, rfl, Nat.zero_le _, G⟩
  case round =>
    clear G
    unfold maxLen at j2
    obtain ⟨j, rfl, hj, G⟩ := hrel
    by_cases hjn : j < p.length
    · obtain ⟨c, hc⟩ : ∃ c, p[j]? = some c := ⟨p[j], List.getElem?_eq_getElem hjn⟩
      obtain ⟨ad, rfl⟩ := rd_some (G.rd (.slice ao p.length ac) _ G) (by omega)
      have HV := Lib.hid (bs_at (mixF_at (f := letC) hc))
      have HM := Lib.hid (mixF_set (f := letC) hc)
      obtain ⟨s1, s2⟩ := let_and c
      have HT := Lib.hid s2
      clear s2 hc
      as_aux_lemma =>
      go_wp2_with (first
        | ((with_reducible refine at_load ?_); refine wpu_loadC (k := j) (G.rd (.slice (some ad) p.length ac) _ G) HV.out rfl (by kernel_rfl) rfl ?_; go_frame)
        | ((with_reducible refine at_strAt ?_); refine wpu_strAt (l := table) (i := (c &&& 31).toNat) rfl (by kernel_rfl) rfl rfl rfl HT.out ?_; go_frame)
        | ((with_reducible refine at_store ?_); refine wpu_store1 (s := ad) (n := p.length) (cap := ac) (k := j) G rfl rfl rfl rfl rfl hjn ?_; clear G; intro w G; go_frame)
        | fail)
      rw [bs_set, HM.out] at G
      go_roundw
      case rel => exact ⟨j + 1, by go_num, by omega, G⟩
      case measure => simp [intOf] <;> omega
    · as_aux_lemma =>
      obtain rfl : j = p.length := by omega
      rw [mixF_end] at G
      have hsl : (p.map letC).length = p.length := by simp
      have G2 : Own B (sl 1 (.slice ao (p.map letC).length ac) (p.map letC).length (bs (p.map letC)) * A) wr := by rw [hsl]; exact G
      clear G
      have G := G2
      clear G2
      rw [← hsl]
      clear hsl
      go_wp2_with (first
        | ((with_reducible refine at_convert ?_); refine wpu_strR (G.rd (.slice ao (p.map letC).length ac) _ G) rfl rfl rfl ?_; go_frame)
        | fail)
      go_ret
      exact ⟨rfl, G.right⟩
end Go.Proofs.YtndlfieignhjjaaDoor
