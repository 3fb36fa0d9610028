




/-
  What spoils a snapshot, in plain Lean.
-/
import Derived.Test.YtjcpfldobiekbaaDoorRtNow
namespace Go.Proofs.YtjcpfldobiekbaaDoor
open Go.RowKit Go.Sl Go.ChangeShapes Go.Fl

theorem newR_dup : ∀ {l seen : List Txt} {x : Txt}, x ∈ seen ∨ x ∈ l → newR seen (l ++ [x]) = none
  | [], seen, x, h => by
    rcases h with h | h
    · rw [List.nil_append]
      show (if x = [] ∨ x ∈ seen then none else newR (seen ++ [x]) []) = none
      rw [if_pos (Or.inr h)]
    · cases h
  | y :: l, seen, x, h => by
    rw [List.cons_append]
    unfold newR
    split
    · rfl
    · refine newR_dup ?_
      rcases h with h | h
      · exact .inl (List.mem_append_left _ h)
      · rcases List.mem_cons.1 h with rfl | h
        · exact .inl (List.mem_append_right _ (List.mem_singleton.2 rfl))
        · exact .inr h
theorem hosts_spoil {cl : List Txt} {h : Hs} (hb : ∀ seen, hostsR cl seen [h] = false) : ∀ {l : List Hs} {seen : List Txt}, hostsR cl seen (l ++ [h]) = false
  | [], seen => hb seen
  | x :: l, seen => by
    rw [List.cons_append]
    unfold hostsR
    cases newR seen (x.names.map smallL) with
    | none => simp
    | some s => simp only [hosts_spoil hb, Bool.and_false]
/-- clusters and hosts changed -/
def moreC (s : Sn) (c : Txt) : Sn := ⟨s.version, s.clusters ++ [c], s.hosts⟩
def moreH (s : Sn) (h : Hs) : Sn := ⟨s.version, s.clusters, s.hosts ++ [h]⟩
theorem spoil0 (s : Sn) : rightR (verS s 0) = false := by rw [right_ver]; rfl
theorem spoil1 {s : Sn} {c : Txt} (h : c ∈ s.clusters) : rightR (moreC s c) = false := by
  unfold rightR moreC
  simp only [newR_dup (.inr h), Option.isSome_none, Bool.and_false, Bool.false_and]
theorem spoilH {s : Sn} {h : Hs} (hb : ∀ seen, hostsR s.clusters seen [h] = false) : rightR (moreH s h) = false := by
  unfold rightR moreH
  simp only [hosts_spoil hb, Bool.and_false]
theorem spoil2 (cl seen : List Txt) : hostsR cl seen [⟨[], []⟩] = false := by
  unfold hostsR
  rfl
theorem spoil3 (cl seen : List Txt) {a b : Txt} (h : smallL a = smallL b) : hostsR cl seen [⟨[a, b], []⟩] = false := by
  unfold hostsR
  have e : newR seen ((⟨[a, b], []⟩ : Hs).names.map smallL) = none := by
    show newR seen [smallL a, smallL b] = none
    rw [h]
    exact newR_dup (l := [smallL b]) (.inr (List.mem_singleton.2 rfl))
  rw [e]
  simp
theorem spoilR {cl seen : List Txt} {ns : List Txt} {r : Rt} (h : mayR r cl = false) : hostsR cl seen [⟨ns, [r]⟩] = false := by
  unfold hostsR
  cases newR seen ((⟨ns, [r]⟩ : Hs).names.map smallL) with
  | none => simp
  | some s => simp [h]
theorem spoil4 {cl : List Txt} {r : Rt} {c : Ch} (h : r.choices = [c]) (hc : c.cluster ∉ cl) : mayR r cl = false := by
  unfold mayR
  rw [h]
  have : cl.contains c.cluster = false := by simpa using hc
  simp only [List.all_cons, this, Bool.false_and, Bool.and_false]
theorem spoil5 {cl : List Txt} {r : Rt} (h : r.choices = []) : mayR r cl = false := by
  unfold mayR
  rw [h]
  have : weighR (weightsR []) = false := by decide +kernel
  rw [this, Bool.and_false]
theorem spoil6 {cl : List Txt} {r : Rt} (h : r.method ≠ []) (h2 : r.service = []) : mayR r cl = false := by
  unfold mayR
  rw [decide_eq_false h, decide_eq_true h2]
  simp
theorem verS_same (s : Sn) : verS s s.version = s := rfl
theorem moreC_ok {s : Sn} (h : s.ok) {c : Txt} (hc : c.length ≤ 140737488351232) : (moreC s c).ok := ⟨fun n hn => by
  rcases List.mem_append.1 hn with hn | hn
  · exact h.1 n hn
  · rw [List.mem_singleton.1 hn]; exact hc, h.2⟩
theorem moreH_ok {s : Sn} (h : s.ok) {x : Hs} (hx : x.ok) : (moreH s x).ok := ⟨h.1, fun n hn => by
  rcases List.mem_append.1 hn with hn | hn
  · exact h.2 n hn
  · rw [List.mem_singleton.1 hn]; exact hx⟩
/-! the same, as it is owned -/
section
variable {B w : World} {R : Assn} {rows : List (List Value)} {S : Sn} {vc vh vn vr vf : Value}
theorem hosts_end {h : Hs} (h2 : ∀ c ∈ rows, c.length = 2) (G : Own B (hsA [vn, vr] h * (sl 1 vc S.clusters.length (strs S.clusters) * (sl 2 vh (S.hosts.length + 1) (rows.flatten ++ [vn, vr]) * (starL hsA rows S.hosts * R)))) w) : Own B (snA [.int .i64 S.version, vc, vh] (moreH S h) * R) w := by
  have hl : rows.length = S.hosts.length := starL_len (R := hsA [vn, vr] h * (sl 1 vc S.clusters.length (strs S.clusters) * (sl 2 vh (S.hosts.length + 1) (rows.flatten ++ [vn, vr]) * R))) (G.eq (by ac_rfl))
  refine own_snA_mk (s := moreH S h) (rows := rows ++ [[vn, vr]]) (fun c hc => ?_) (G.eq ?_)
  · rcases List.mem_append.1 hc with hc | hc
    · exact h2 c hc
    · rw [List.mem_singleton.1 hc]; rfl
  · unfold moreH
    simp only
    rw [starL_snoc hl, List.flatten_append, List.flatten_singleton, List.length_append, List.length_singleton]
    ac_rfl
theorem clus_end {c : Txt} (h2 : ∀ c ∈ rows, c.length = 2) (G : Own B (sl 1 vc (S.clusters.length + 1) (strs (S.clusters ++ [c])) * (sl 2 vh S.hosts.length rows.flatten * (starL hsA rows S.hosts * R))) w) : Own B (snA [.int .i64 S.version, vc, vh] (moreC S c) * R) w :=
  own_snA_mk (s := moreC S c) (rows := rows) h2 (G.eq (by
    unfold moreC
    simp only
    rw [List.length_append, List.length_singleton]))
theorem names_end {N : List Txt} (G : Own B (sl 1 vn N.length (strs N) * R) w) : Own B (hsA [vn, .slice none 0 0] ⟨N, []⟩ * R) w :=
  own_hsA_mk (h0 := ⟨N, []⟩) (vn := vn) (vr := .slice none 0 0) (rows := []) (fun _ h => by cases h) (((own_nil G 7).eq (by
    show _ = sl 1 vn N.length (strs N) * (sl 7 (.slice none 0 0) 0 [] * (emp * R))
    rw [emp_star]
    ac_rfl)))
theorem route_end {N : List Txt} {r : Rt} (G : Own B (sl 1 vn N.length (strs N) * (sl 7 vr 1 (rtCs r vf vc) * (sl 4 vf r.fields.length (mrs r.fields) * (sl 2 vc r.choices.length (chs r.choices) * R)))) w) : Own B (hsA [vn, vr] ⟨N, [r]⟩ * R) w := by
  have G2 := own_rtA_mk (r := r) (vf := vf) (vc := vc) (R := sl 1 vn N.length (strs N) * (sl 7 vr 1 (rtCs r vf vc) * R)) (G.eq (by ac_rfl))
  refine own_hsA_mk (h0 := ⟨N, [r]⟩) (vn := vn) (vr := vr) (rows := [rtCs r vf vc]) (fun c h => by rw [List.mem_singleton.1 h]; rfl) (G2.eq ?_)
  show _ = sl 1 vn N.length (strs N) * (sl 7 vr 1 [rtCs r vf vc].flatten * ((rtA (rtCs r vf vc) r * emp) * R))
  rw [star_emp, List.flatten_singleton]
  ac_rfl
theorem route_end' {N : List Txt} {r : Rt} {n nf nc : Nat} {xs cs fs ks : List Value} (h1 : n = N.length) (h2 : xs = strs N) (h3 : cs = rtCs r vf vc) (h4 : nf = r.fields.length) (h5 : fs = mrs r.fields) (h6 : nc = r.choices.length) (h7 : ks = chs r.choices) (G : Own B (sl 1 vn n xs * (sl 7 vr 1 cs * (sl 4 vf nf fs * (sl 2 vc nc ks * R)))) w) : Own B (hsA [vn, vr] ⟨N, [r]⟩ * R) w := by
  subst h1 h2 h3 h4 h5 h6 h7
  exact route_end G
end
end Go.Proofs.YtjcpfldobiekbaaDoor
