




/-
  flumelaw16.plain and shown.
-/
import Derived.Test.YtjcpfldobiekbaaDoorRtTab
namespace Go.Proofs.YtjcpfldobiekbaaDoor
open Go.RowKit Go.Sl Go.ChangeShapes

def one64 : Nat := 4607182418800017408
def plainRt (c : Txt) : Rt := ⟨[47], 2, [], [], [], [⟨c, one64⟩], 7⟩
def plainSn (v : Int) (c : Txt) : Sn := ⟨v, [c], [⟨[[42]], [plainRt c]⟩]⟩
theorem buildS1 (x : Txt) (w : World) : (Instr.buildSlice 22 1 #[(0, str x)]).run Tryd.prog w = .ok (.slice (some ⟨w.heap.size, 0, none⟩) 1 1) (w.alloc (.cells (strs [x]).toArray 9)) := by kernel_rfl
theorem buildC1 (c : Txt) (w : World) : (Instr.buildSlice 39 1 #[(0, .agg #[str c, .float .f64 one64])]).run Tryd.prog w = .ok (.slice (some ⟨w.heap.size, 0, none⟩) 1 1) (w.alloc (.cells (chs [⟨c, one64⟩]).toArray 38)) := by kernel_rfl

theorem buildP1 (c : Txt) (x : Value) (w : World) : (Instr.buildSlice 31 1 #[(0, .agg #[str [47], .int .i64 2, str [], str [], .slice none 0 0, x, .int .i64 7])]).run Tryd.prog w = .ok (.slice (some ⟨w.heap.size, 0, none⟩) 1 1) (w.alloc (.cells (rtCs (plainRt c) (.slice none 0 0) x).toArray 42)) := by kernel_rfl

set_option maxHeartbeats 16000000 in
set_option maxRecDepth 100000 in
theorem plainC {w0 : World} (v : Int) (c : Txt) :
    Calls Tryd.prog 20 #[.int .i64 v, str c] w0 fun e w' => ∃ vc vh, e = .returned (.agg #[.int .i64 v, vc, vh]) ∧ Own w0 (snA [.int .i64 v, vc, vh] (plainSn v c)) w' := by
  have G := own_begin w0
  go_enter Tryd.func20, Tryd.ntmps20
  go_wp2_with (first
    | ((with_reducible refine at_alloc ?_); refine wpu_new G ?_; clear G; intro w G)
    | ((with_reducible refine at_drew ?_); refine wpu_drew G ?_; clear G; intro w G)
    | ((with_reducible refine at_build ?_); refine hold ?_)
    | fail)
  unfold Held
  refine wpu_val rfl (exec_buildT _ rfl (by kernel_rfl) (buildS1 c _)) ?_
  go_frame
  replace G := own_new_sl (n := 1) (sz := 1) G (strs [c]) 9 rfl (by decide)
  generalize w.heap.size = b1 at G ⊢
  generalize w.alloc _ = w at G ⊢
  go_wp2_with (first
    | ((with_reducible refine at_build ?_); refine hold ?_)
    | ((with_reducible refine at_store ?_); refine hold ?_)
    | fail)
  unfold Held
  refine wpu_val rfl (exec_buildT _ rfl (by kernel_rfl) (buildS1 [42] _)) ?_
  go_frame
  replace G := own_new_sl (n := 1) (sz := 1) G (strs [[42]]) 9 rfl (by decide)
  generalize w.heap.size = b3 at G ⊢
  generalize w.alloc _ = w at G ⊢
  go_wp2_with (first
    | ((with_reducible refine at_build ?_); refine hold ?_)
    | ((with_reducible refine at_store ?_); refine hold ?_)
    | fail)
  unfold Held
  refine wpu_val rfl (exec_buildT _ rfl (by kernel_rfl) (buildC1 c _)) ?_
  go_frame
  replace G := own_new_sl (n := 1) (sz := 2) G (chs [⟨c, one64⟩]) 38 rfl (by decide)
  generalize w.heap.size = b5 at G ⊢
  generalize w.alloc _ = w at G ⊢
  go_wp2_with (first
    | ((with_reducible refine at_build ?_); refine hold ?_)
    | ((with_reducible refine at_store ?_); refine hold ?_)
    | fail)
  unfold Held
  refine wpu_val rfl (exec_buildT _ rfl (by kernel_rfl) (buildP1 c (.slice (some ⟨b5, 0, none⟩) 1 1) _)) ?_
  go_frame
  replace G := own_new_sl (n := 1) (sz := 7) G (rtCs (plainRt c) (.slice none 0 0) (.slice (some ⟨b5, 0, none⟩) 1 1)) 42 rfl (by decide)
  generalize w.heap.size = b7 at G ⊢
  generalize w.alloc _ = w at G ⊢
  go_wp2_with (first
    | ((with_reducible refine at_build ?_); refine hold ?_)
    | ((with_reducible refine at_store ?_); refine hold ?_)
    | fail)
  unfold Held
  refine wpu_val rfl (exec_buildT _ rfl (by kernel_rfl) (buildH1 (.slice (some ⟨b3, 0, none⟩) 1 1) (.slice (some ⟨b7, 0, none⟩) 1 1) _)) ?_
  go_frame
  replace G := own_new_sl (n := 1) (sz := 2) G [.slice (some ⟨b3, 0, none⟩) 1 1, .slice (some ⟨b7, 0, none⟩) 1 1] 33 rfl (by decide)
  generalize w.heap.size = b9 at G ⊢
  generalize w.alloc _ = w at G ⊢
  go_wp2_with (first
    | ((with_reducible refine at_build ?_); refine hold ?_)
    | ((with_reducible refine at_store ?_); refine hold ?_)
    | fail)
  unfold Held
  refine wpu_storeB G rfl rfl rfl rfl (by rfl) (by rfl) (by rfl) ?_
  clear G; intro w G
  go_frame
  go_wp2_with fail
  try simp only [Exit.inBlock, Exit.then]
  refine bodyPost_ret (results1 rfl (resB G rfl (by rfl))) rfl ?_
  refine ⟨_, _, rfl, ?_⟩
  have G := G.sub (sl 2 (.slice (some ⟨b9, 0, none⟩) 1 1) 1 [.slice (some ⟨b3, 0, none⟩) 1 1, .slice (some ⟨b7, 0, none⟩) 1 1] * (sl 7 (.slice (some ⟨b7, 0, none⟩) 1 1) 1 (rtCs (plainRt c) (.slice none 0 0) (.slice (some ⟨b5, 0, none⟩) 1 1)) * (sl 2 (.slice (some ⟨b5, 0, none⟩) 1 1) 1 (chs [⟨c, one64⟩]) * (sl 1 (.slice (some ⟨b3, 0, none⟩) 1 1) 1 (strs [[42]]) * sl 1 (.slice (some ⟨b1, 0, none⟩) 1 1) 1 (strs [c])))))
  have G := own_nil G 4
  have G := own_rtA_mk (r := plainRt c) (vf := .slice none 0 0) (vc := .slice (some ⟨b5, 0, none⟩) 1 1) (R := sl 2 (.slice (some ⟨b9, 0, none⟩) 1 1) 1 [.slice (some ⟨b3, 0, none⟩) 1 1, .slice (some ⟨b7, 0, none⟩) 1 1] * (sl 7 (.slice (some ⟨b7, 0, none⟩) 1 1) 1 (rtCs (plainRt c) (.slice none 0 0) (.slice (some ⟨b5, 0, none⟩) 1 1)) * (sl 1 (.slice (some ⟨b3, 0, none⟩) 1 1) 1 (strs [[42]]) * sl 1 (.slice (some ⟨b1, 0, none⟩) 1 1) 1 (strs [c])))) (G.eq (by
    show sl 4 (.slice none 0 0) 0 [] * _ = sl 4 (.slice none 0 0) 0 [] * (sl 2 (.slice (some ⟨b5, 0, none⟩) 1 1) 1 (chs [⟨c, one64⟩]) * _)
    ac_rfl))
  have G := own_hsA_mk (h0 := ⟨[[42]], [plainRt c]⟩) (vn := .slice (some ⟨b3, 0, none⟩) 1 1) (vr := .slice (some ⟨b7, 0, none⟩) 1 1) (rows := [rtCs (plainRt c) (.slice none 0 0) (.slice (some ⟨b5, 0, none⟩) 1 1)]) (R := sl 2 (.slice (some ⟨b9, 0, none⟩) 1 1) 1 [.slice (some ⟨b3, 0, none⟩) 1 1, .slice (some ⟨b7, 0, none⟩) 1 1] * sl 1 (.slice (some ⟨b1, 0, none⟩) 1 1) 1 (strs [c])) (fun c hc => by rw [List.mem_singleton.1 hc]; rfl) (G.eq (by
    show _ = sl 1 (.slice (some ⟨b3, 0, none⟩) 1 1) 1 (strs [[42]]) * (sl 7 (.slice (some ⟨b7, 0, none⟩) 1 1) 1 [rtCs (plainRt c) (.slice none 0 0) (.slice (some ⟨b5, 0, none⟩) 1 1)].flatten * ((rtA (rtCs (plainRt c) (.slice none 0 0) (.slice (some ⟨b5, 0, none⟩) 1 1)) (plainRt c) * emp) * _))
    rw [star_emp, List.flatten_singleton]
    ac_rfl))
  refine (own_snA_mk (s := plainSn v c) (vc := .slice (some ⟨b1, 0, none⟩) 1 1) (vh := .slice (some ⟨b9, 0, none⟩) 1 1) (rows := [[.slice (some ⟨b3, 0, none⟩) 1 1, .slice (some ⟨b7, 0, none⟩) 1 1]]) (R := emp) (fun c hc => by rw [List.mem_singleton.1 hc]; rfl) (G.eq ?_)).drop
  show _ = sl 1 (.slice (some ⟨b1, 0, none⟩) 1 1) 1 (strs [c]) * (sl 2 (.slice (some ⟨b9, 0, none⟩) 1 1) 1 [[Value.slice (some ⟨b3, 0, none⟩) 1 1, .slice (some ⟨b7, 0, none⟩) 1 1]].flatten * ((hsA [.slice (some ⟨b3, 0, none⟩) 1 1, .slice (some ⟨b7, 0, none⟩) 1 1] ⟨[[42]], [plainRt c]⟩ * emp) * emp))
  rw [star_emp, star_emp, List.flatten_singleton]
  ac_rfl
end Go.Proofs.YtjcpfldobiekbaaDoor
