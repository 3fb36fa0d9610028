/-
  The queue of octets: what each of its methods does.
-/
import Derived.Test.YtalgkehaeiokoaaOct
namespace Go.Proofs.Ytalgkehaeiokoaa
open Go.RowKit Go.Sl

/-- a queue in block q: its octets, its bound -/
def queueA (q : Nat) (b : List UInt8) (mx : Nat) : Assn := ex fun hd => blk q [hd, .int .i64 mx] * sl 1 hd b.length (bs b)

section
variable {B w : World} {A R : Assn} {q : Nat} {b : List UInt8} {mx : Nat}

theorem queueA_mk {hd : Value} (h : Own B (blk q [hd, .int .i64 mx] * sl 1 hd b.length (bs b) * R) w) : Own B (queueA q b mx * R) w := own_ex_mk hd h

theorem newQ (n : Int) (h : Own B A w) : Calls Try.prog 12 #[.int .i64 n] w fun e w' => ∃ q, e = .returned (.pointer (some ⟨q, 0, none⟩)) ∧ Own B (queueA q [] (min (max n 0) 1000000).toNat * A) w' := by
  go_enter Try.func12, Try.ntmps12
  go_wp2
  go_ret
  refine ⟨_, rfl, ?_⟩
  have g := own_new h [.slice none 0 0, .int .i64 (min (max n 0) 1000000)] 53
  refine own_ex_mk (.slice none 0 0) ?_
  have e : ((min (max n 0) 1000000).toNat : Int) = min (max n 0) 1000000 := by omega
  rw [e]
  exact (own_nil g 1).eq (by ac_rfl)

theorem lenQ (h : Own B (queueA q b mx * R) w) : Calls Try.prog 21 #[.pointer (some ⟨q, 0, none⟩)] w fun e w' => e = .returned (.int .i64 b.length) ∧ Own B (queueA q b mx * R) w' := by
  obtain ⟨hd, g⟩ := own_ex h
  obtain ⟨ao, cap, rfl, g1, g2⟩ := g.hdr hd
  unfold maxLen at g2
  have c0 := g.cell q 0 rfl
  go_enter Try.func21, Try.ntmps21
  go_wp2
  go_ret
  exact ⟨rfl, h⟩

theorem roomQ (h : Own B (queueA q b mx * R) w) (hm : b.length ≤ mx) (hx : mx ≤ 1000000) : Calls Try.prog 22 #[.pointer (some ⟨q, 0, none⟩)] w fun e w' => e = .returned (.int .i64 (mx - b.length : Nat)) ∧ Own B (queueA q b mx * R) w' := by
  obtain ⟨hd, g⟩ := own_ex h
  obtain ⟨ao, cap, rfl, g1, g2⟩ := g.hdr hd
  unfold maxLen at g2
  have c0 := g.cell q 0 rfl
  have c1 := g.cell q 1 rfl
  go_enter Try.func22, Try.ntmps22
  go_wp2
  refine wp_region_calm (C := Own _ _) (by kernel_rfl) (by kernel_rfl) (own_drew g) ?_
  intro ι W hne hW hs
  repeat (go_big_quiet_step (fail))
  refine wpQuiet_nil ?_
  intro i
  have g' := hW i
  generalize W i = wg' at g' ⊢
  clear  hs hW hne
  go_wp2
  go_ret
  exact ⟨ret_int (by omega), own_ex_mk _ g'⟩

theorem pushQ (h : Own B (queueA q b mx * R) w) (hm : b.length ≤ mx) (hx : mx ≤ 1000000) {v : Value} {y : List UInt8} (hr : ∀ w, Own B R w → rd w 1 v y.length (bs y)) :
    Calls Try.prog 13 #[.pointer (some ⟨q, 0, none⟩), v] w fun e w' => e = .returned (.int .i64 (min y.length (mx - b.length) : Nat)) ∧ Own B (queueA q (b ++ y.take (mx - b.length)) mx * R) w' := by
  obtain ⟨uo, ucap, rfl, u1, u2, u3, -⟩ := hr w h.right
  unfold maxLen at u2
  go_enter Try.func13, Try.ntmps13
  go_wp2_with (go_at_call 22; refine (roomQ h hm hx).mono ?_; rintro e w1 ⟨rfl, h1⟩)
  obtain ⟨hd, g⟩ := own_ex h1
  obtain ⟨ao, cap, rfl, g1, g2⟩ := g.hdr hd
  unfold maxLen at g2
  have c0 := g.cell q 0 rfl
  refine wp_region_mix (List.replicate 8 0 ++ (1 :: (List.replicate 2 0 ++ [2]))) (fun w => w.cell? ⟨q, 0, none⟩ = some (.slice ao b.length cap)) (by kernel_rfl) (by kernel_rfl) (c0 _ (own_drew g)) ?_
  refine mix_calm 8 (c0 _ (own_drew g)) (by rfl) (by rfl) ?_
  intro ι W hne hW
  dsimp only [List.take, List.drop]
  repeat (go_big_quiet_step (fail))
  refine wpQuiet_nil ?_
  clear  hW hne W ι
  refine mix_loud rfl (fun K hK => ?_)
  refine wp_append (v := .slice ao b.length cap) (A := _) rfl (own_drew (g.eq (A' := sl 1 (.slice ao b.length cap) b.length (bs b) * (blk q [.slice ao b.length cap, .int .i64 mx] * R)) (by ac_rfl))) isBytes rfl rfl rfl (rd_take (hr _ (own_drew g).right) (by omega)) (by rw [bs_take]; exact bs_one _) (by unfold maxLen; omega) (by omega) fun v' w2 h2 => ?_
  have d0 := h2.cell q 0 rfl
  refine hK _ _ ⟨d0 _ h2, ?_⟩
  clear hK
  go_frame
  refine mix_calm 2 (d0 _ h2) (by rfl) (by rfl) ?_
  intro ι W hne hW
  dsimp only [List.take, List.drop]
  repeat (go_big_quiet_step (fail))
  refine wpQuiet_nil ?_
  clear  hW hne W ι
  refine mix_last rfl (fun K hK => ?_)
  refine wp_store h2 rfl (by kernel_rfl) q 0 v' rfl rfl (h2.rd v' _ h2).one rfl fun w3 h3 => hK _ _ (mix_nil ?_)
  clear hK
  go_frame
  go_wp2
  go_ret
  refine ⟨ret_int (by omega), own_ex_mk v' (h3.eq ?_)⟩
  have em : (min (y.length : Int) ((mx - b.length : Nat) : Int)).toNat = min y.length (mx - b.length) := by omega
  rw [em, Nat.mul_one, bs_take, take_min, ← bs_append, sl_congr (n' := (b ++ y.take (mx - b.length)).length) (by simp; omega) rfl]
  show _ * (blk q [v', .int .i64 mx] * R) = _
  ac_rfl

theorem peekQ (h : Own B (queueA q b mx * R) w) (hm : b.length ≤ 1000000) (n : Int) :
    Calls Try.prog 14 #[.pointer (some ⟨q, 0, none⟩), .int .i64 n] w fun e w' => ∃ v, e = .returned v ∧ Own B (queueA q b mx * (sl 1 v (min n.toNat b.length) (bs (b.take n.toNat)) * R)) w' := by
  obtain ⟨hd, g⟩ := own_ex h
  obtain ⟨ao, cap, rfl, g1, g2⟩ := g.hdr hd
  unfold maxLen at g2
  have c0 := g.cell q 0 rfl
  go_enter Try.func14, Try.ntmps14
  go_wp2
  refine wp_region_mix (List.replicate 13 0 ++ [2, 3]) (fun w => w.cell? ⟨q, 0, none⟩ = some (.slice ao b.length cap)) (by kernel_rfl) (by kernel_rfl) (c0 _ (own_drew g)) ?_
  refine mix_calm 13 (c0 _ (own_drew g)) (by rfl) (by rfl) ?_
  intro ι W hne hW
  dsimp only [List.take, List.drop]
  repeat (go_big_quiet_step (fail))
  refine wpQuiet_nil ?_
  clear  hW hne W ι
  refine mix_last rfl (fun K hK => ?_)
  have em : (min (max n 0) (b.length : Int)).toNat = min b.length n.toNat := by omega
  have el : (b.take n.toNat).length = min b.length n.toNat := by simp; omega
  have hr : ∀ w, Own B (blk q [.slice ao b.length cap, .int .i64 mx] * sl 1 (.slice ao b.length cap) b.length (bs b) * R) w → rd w 1 (.slice ao (min (max n 0) (b.length : Int)).toNat cap) (b.take n.toNat).length (bs (b.take n.toNat)) := fun w h => by
    have := rd_take (h.rd (.slice ao b.length cap) w h) (k := min b.length n.toNat) (by omega)
    rw [Nat.mul_one, bs_take, take_min] at this
    rw [em, el]
    exact this
  clear c0 g1 g2 el
  have Em := Lib.hid em
  clear em
  go_wp2_with fail
  refine (cloneB (own_drew g) hr (by simp; omega)).mono ?_
  rintro e w1 ⟨v1, rfl, g1⟩
  refine hK _ _ ?_
  clear hK
  refine mix_plain 1 (by rfl) (by rfl) ?_
  intro ι W hne
  dsimp only [List.take, List.drop]
  repeat (go_big_quiet_step (fail))
  refine wpQuiet_nil ?_
  clear hne W ι
  refine mix_nil ?_
  go_wp2
  go_ret
  have e3 : (b.take n.toNat).length = min n.toNat b.length := by simp
  rw [e3] at g1
  exact ⟨v1, rfl, queueA_mk (g1.eq (by ac_rfl))⟩

theorem popQ (h : Own B (queueA q b mx * R) w) (hm : b.length ≤ 1000000) (n : Int) :
    Calls Try.prog 15 #[.pointer (some ⟨q, 0, none⟩), .int .i64 n] w fun e w' => ∃ v, e = .returned v ∧ Own B (queueA q (b.drop n.toNat) mx * (sl 1 v (min n.toNat b.length) (bs (b.take n.toNat)) * R)) w' := by
  go_enter Try.func15, Try.ntmps15
  go_wp2_with (go_at_call 14; refine (peekQ h hm n).mono ?_; rintro e w1 ⟨v1, rfl, g1⟩)
  obtain ⟨hd, g⟩ := own_ex g1
  obtain ⟨ao, cap, rfl, i1, i2⟩ := g.hdr hd
  obtain ⟨po, pcap, rfl, i3, i4⟩ := g.hdr v1
  unfold maxLen at i2 i4
  have c0 := g.cell q 0 rfl
  refine wp_region_mix (List.replicate 16 0 ++ (1 :: (List.replicate 3 0 ++ [2]))) (fun w => w.cell? ⟨q, 0, none⟩ = some (.slice ao b.length cap)) (by kernel_rfl) (by kernel_rfl) (c0 _ (own_drew g)) ?_
  refine mix_calm 16 (c0 _ (own_drew g)) (by rfl) (by rfl) ?_
  intro ι W hne hW
  dsimp only [List.take, List.drop]
  repeat (go_big_quiet_step (fail))
  refine wpQuiet_nil ?_
  clear  hW hne W ι
  refine mix_loud rfl (fun K hK => ?_)
  refine wp_copy (v := .slice ao b.length cap) (A := _) rfl (own_drew (g.eq (A' := sl 1 (.slice ao b.length cap) b.length (bs b) * (blk q [.slice ao b.length cap, .int .i64 mx] * (sl 1 (.slice po (min n.toNat b.length) pcap) (min n.toNat b.length) (bs (b.take n.toNat)) * R))) (by ac_rfl))) isBytes rfl rfl rfl (rd_cut1 (g.rd (.slice ao b.length cap) _ (own_drew g)) (min n.toNat b.length) b.length (by omega) (Nat.le_refl _)) (fun y hy => bs_one b y (List.mem_of_mem_drop (List.mem_of_mem_take hy))) fun w2 h2 => ?_
  have e0 : min (b.length - min n.toNat b.length) b.length = b.length - min n.toNat b.length := by omega
  rw [e0] at h2 ⊢
  have d0 := h2.cell q 0 rfl
  refine hK _ _ ⟨d0 _ h2, ?_⟩
  clear hK
  unfold goInt
  go_frame
  have H0 := Lib.hid e0
  clear e0
  generalize (if cap = min n.toNat b.length then ao else _) = zo
  refine mix_calm 3 (d0 _ h2) (by rfl) (by rfl) ?_
  intro ι W hne hW
  dsimp only [List.take, List.drop]
  repeat (go_big_quiet_step (fail))
  refine wpQuiet_nil ?_
  clear  hW hne W ι
  refine mix_last rfl (fun K hK => ?_)
  refine wp_store h2 rfl (by kernel_rfl) q 0 (.slice ao (b.length - min n.toNat b.length) cap) rfl rfl rfl rfl fun w3 h3 => hK _ _ (mix_nil ?_)
  clear hK
  go_frame
  go_wp2
  go_ret
  have h4 := own_take1 (k := b.length - min n.toNat b.length) h3 (by omega)
  refine ⟨.slice po (min n.toNat b.length) pcap, rfl, queueA_mk (hd := .slice ao (b.length - min n.toNat b.length) cap) (h4.eq ?_)⟩
  have el : (b.drop n.toNat).length = b.length - min n.toNat b.length := by simp; omega
  have ex : (List.take (b.length - min n.toNat b.length) (List.take ((b.length - min n.toNat b.length) * 1) (List.take (b.length - min n.toNat b.length) (List.drop (min n.toNat b.length) (bs b))) ++ List.drop ((b.length - min n.toNat b.length) * 1) (bs b))) = bs (b.drop n.toNat) := by
    rw [Nat.mul_one, List.take_take, Nat.min_self, List.take_append_of_le_length (by simp), List.take_take, Nat.min_self, List.take_of_length_le (by simp), bs_drop]
    congr 1
    rcases Nat.le_total n.toNat b.length with e | e
    · rw [Nat.min_eq_left e]
    · rw [Nat.min_eq_right e, List.drop_eq_nil_of_le e, List.drop_length]
  rw [ex, el]
  show _ * (blk q [.slice ao (b.length - min n.toNat b.length) cap, .int .i64 mx] * _) = _
  ac_rfl
end
end Go.Proofs.Ytalgkehaeiokoaa
