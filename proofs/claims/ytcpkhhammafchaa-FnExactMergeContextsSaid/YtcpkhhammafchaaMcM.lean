/- MergeContexts, in plain Lean. Written by mk_mc.py. -/
import Derived.Test.YtcpkhhammafchaaFdM
import Derived.Test.YtcpkhhammafchaaGD
import Derived.Test.YtcpkhhammafchaaGF
namespace Go.Proofs.Ytcpkhhammafchaa
open Go.RowKit
set_option linter.unusedVariables false
set_option linter.unusedSimpArgs false
theorem adj_rises : ∀ {ws : List (List Int)}, (∀ i, i + 1 < ws.length → cmpL (ws.getD i []) (ws.getD (i + 1) []) < 0) → Rises ws
  | [], _ => List.Pairwise.nil
  | [y], _ => List.pairwise_singleton _ _
  | y :: a :: r, h => by
    have ih := adj_rises (ws := a :: r) (fun i hi => by have h1 := h (i + 1) (by simp only [List.length_cons] at hi ⊢; omega); simpa using h1)
    have h0 : cmpL y a < 0 := by have h1 := h 0 (by simp only [List.length_cons]; omega); simpa using h1
    refine List.pairwise_cons.2 ⟨fun z hz => ?_, ih⟩
    rcases List.mem_cons.1 hz with rfl | hz
    · exact h0
    · exact cmpL_tri h0 ((List.pairwise_cons.1 ih).1 z hz)
theorem rises_prop {ws : List (List Int)} (h : rises ws = true) : Rises ws := adj_rises (fun i hi => by
  have h1 := allTo_true.1 h (i + 1) hi
  simp only [upAt, Nat.add_sub_cancel, Bool.or_eq_true, decide_eq_true_eq] at h1
  rcases h1 with h1 | h1
  · omega
  · exact h1)
theorem stated_mem : ∀ {sts : List Int} {cs : List (List Int)} {x : List Int}, x ∈ stated sts cs → ∃ st y, x = st :: y ∧ st ∈ sts ∧ y ∈ cs
  | [], _, x, h => by simp [stated] at h
  | _ :: _, [], x, h => by simp [stated] at h
  | a :: r, c :: d, x, h => by
    unfold stated at h
    rw [List.zipWith_cons_cons] at h
    rcases List.mem_cons.1 h with rfl | h
    · exact ⟨a, c, rfl, List.mem_cons_self, List.mem_cons_self⟩
    · obtain ⟨st, y, e, h1, h2⟩ := stated_mem (sts := r) (cs := d) h
      exact ⟨st, y, e, List.mem_cons_of_mem _ h1, List.mem_cons_of_mem _ h2⟩
structure McF (N : Nat) (ns : List Int) (ws : List (List Int)) : Prop where
  n : pN ns = (N : Int)
  n4 : 1 ≤ N ∧ N ≤ 4
  rl : Rises (lefts ns ws)
  rr : Rises (rights ns ws)
  rc : Rises (stated (ns.drop 3) (ctxs ns ws))
  wl : ∀ x ∈ lefts ns ws, Gw x ∧ x.length = N
  wr : ∀ x ∈ rights ns ws, Gw x ∧ x.length = N
  wc : ∀ x ∈ stated (ns.drop 3) (ctxs ns ws), Gw x ∧ x.length = 2 * N + 2
  hl : (ns.drop 3).length = (ctxs ns ws).length
  sl : (lefts ns ws).length ≤ 300
  sr : (rights ns ws).length ≤ 300
  sc : (stated (ns.drop 3) (ctxs ns ws)).length ≤ 300
theorem gw_len {m : Nat} {g : Int} {x : List Int} (h : lenB (m : Int) 9 x = true) (hm : m ≤ 9) : Gw x ∧ x.length = m := by
  simp only [lenB, Bool.and_eq_true, decide_eq_true_eq] at h
  refine ⟨⟨by omega, fun z hz => ?_⟩, by omega⟩
  have h1 := inB_true.1 (List.all_eq_true.1 h.2 z hz)
  unfold SmI; omega
theorem mc_facts {k : Int} {ns : List Int} {ws : List (List Int)} (hok : okP k ns ws = true) (hcs : csOk k ns ws = true) : ∃ N : Nat, McF N ns ws := by
  simp only [csOk, Bool.and_eq_true] at hcs
  obtain ⟨⟨⟨h1, h2⟩, h3⟩, h4⟩ := hcs
  obtain ⟨_, h31, hN1, hN4⟩ := g1_bd h1
  obtain ⟨N, hN⟩ : ∃ N : Nat, pN ns = (N : Int) := ⟨(pN ns).toNat, by omega⟩
  obtain ⟨a, b, ha, hb, hab, hl⟩ := g2_bd h2
  obtain ⟨_, _, hw, _, _⟩ := okP_bd hok
  simp only [g2, Bool.and_eq_true] at h2
  have hal := allIn_true.1 h2.2
  simp only [g3, Bool.and_eq_true, List.all_eq_true] at h3
  simp only [g4, Bool.and_eq_true] at h4
  obtain ⟨⟨l1, l2⟩, l3⟩ := h3
  obtain ⟨⟨r1, r2⟩, r3⟩ := h4
  rw [hN] at l1 l2 l3
  have hlen : (ns.drop 3).length = (ctxs ns ws).length := by simp [ctxs, ha, hb]; omega
  refine ⟨N, hN, by omega, rises_prop r1, rises_prop r2, rises_prop r3, fun x hx => gw_len (g := 0) (l1 x hx) (by omega), fun x hx => gw_len (g := 0) (l2 x hx) (by omega), fun x hx => ?_, hlen, by simp only [lefts, List.length_take]; omega, by simp only [rights, List.length_take, List.length_drop]; omega, by rw [stated_len hlen]; simp only [ctxs, List.length_drop]; omega⟩
  obtain ⟨st, y, rfl, hst, hy⟩ := stated_mem hx
  have h5 := gw_len (m := 2 * N + 1) (g := 0) (by have h6 := l3 y hy; rw [show ((2 * N + 1 : Nat) : Int) = 2 * (N : Int) + 1 by omega]; exact h6) (by omega)
  refine ⟨⟨by simp only [List.length_cons]; omega, fun z hz => ?_⟩, by simp only [List.length_cons]; omega⟩
  rcases List.mem_cons.1 hz with rfl | hz
  · have := hal z hst; unfold SmI; omega
  · exact h5.1.2 z hz
def mcS (ns1 : List Int) (ws1 : List (List Int)) (ns2 : List Int) (ws2 : List (List Int)) : St3 := ⟨(lefts ns2 ws2).foldl putL (lefts ns1 ws1), (rights ns2 ws2).foldl putL (rights ns1 ws1), (stated (ns2.drop 3) (ctxs ns2 ws2)).foldl putL (stated (ns1.drop 3) (ctxs ns1 ws1))⟩
def mcP (k1 : Int) (ns1 : List Int) (ws1 : List (List Int)) (k2 : Int) (ns2 : List Int) (ws2 : List (List Int)) : ResF :=
  if okP k1 ns1 ws1 && okP k2 ns2 ws2 then (if csOk k1 ns1 ws1 && csOk k2 ns2 ws2 && decide (pN ns1 = pN ns2) then prF (pN ns1).toNat (mcS ns1 ws1 ns2 ws2) else (0, [], [], 2)) else (0, [], [], 1)
theorem mc_sort {a b : List (List Int)} (h : Rises a) : sortU (a ++ b) = b.foldl putL a := by rw [sortU_app, sortU_of h (fun z => Iff.rfl)]
theorem mc_bd {N : Nat} {ns1 ns2 : List Int} {ws1 ws2 : List (List Int)} (h1 : McF N ns1 ws1) (h2 : McF N ns2 ws2) : ((mcS ns1 ws1 ns2 ws2).l.length ≤ 600 ∧ (mcS ns1 ws1 ns2 ws2).r.length ≤ 600 ∧ (mcS ns1 ws1 ns2 ws2).c.length ≤ 600) ∧ ∀ x ∈ (mcS ns1 ws1 ns2 ws2).c, 1 ≤ x.length := by
  refine ⟨⟨?_, ?_, ?_⟩, fun x hx => ?_⟩
  · have h := (foldl_len (ys := lefts ns2 ws2) h1.rl).2; have a := h1.sl; have b := h2.sl; unfold mcS; simp only; omega
  · have h := (foldl_len (ys := rights ns2 ws2) h1.rr).2; have a := h1.sr; have b := h2.sr; unfold mcS; simp only; omega
  · have h := (foldl_len (ys := stated (ns2.drop 3) (ctxs ns2 ws2)) h1.rc).2; have a := h1.sc; have b := h2.sc; unfold mcS; simp only; omega
  · rcases (foldl_mem h1.rc).1 hx with h | h
    · have := (h1.wc x h).2; omega
    · have := (h2.wc x h).2; omega
end Go.Proofs.Ytcpkhhammafchaa
