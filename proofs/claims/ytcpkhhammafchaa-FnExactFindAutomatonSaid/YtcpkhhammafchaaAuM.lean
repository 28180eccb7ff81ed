/- Automata, in plain Lean: validity; the abstractions that are reached; keys of abstractions. -/
import Derived.Test.YtcpkhhammafchaaGB
namespace Go.Proofs.Ytcpkhhammafchaa
open Go.RowKit
set_option linter.unusedVariables false
set_option linter.unusedSimpArgs false
/-- A valid automaton. -/
def dfB (st : Int) (ns : List Int) (s : Int) : Bool := inB s 2 6 && inB st 1 20 && decide ((ns.length : Int) = st * s) && allIn ns 0 (st - 1) && decide (ns.getD 0 0 = 0)
theorem dfB_all {st s : Int} {ns : List Int} (h : dfB st ns s = true) : (2 ≤ s ∧ s ≤ 6) ∧ (1 ≤ st ∧ st ≤ 20) ∧ (ns.length : Int) = st * s ∧ (∀ x ∈ ns, 0 ≤ x ∧ x ≤ st - 1) ∧ ns.getD 0 0 = 0 := by
  simp only [dfB, Bool.and_eq_true, decide_eq_true_eq, inB_true] at h
  obtain ⟨⟨⟨⟨h1, h2⟩, h3⟩, h4⟩, h5⟩ := h
  exact ⟨h1, h2, h3, allIn_true.1 h4, h5⟩
theorem mul_bd {a b c d : Int} (h0 : 0 ≤ a) (h1 : a ≤ c) (h2 : 0 ≤ b) (h3 : b ≤ d) : 0 ≤ a * b ∧ a * b ≤ c * d :=
  ⟨Int.mul_nonneg h0 h2, Int.mul_le_mul h1 h3 h2 (by omega)⟩
def ruleA (s : Int) (rs : List Rul) (x : List Int) : Rul := rs.getD (x.getD 1 0 * s + x.getD 2 0).toNat noR
def fromD (ns : List Int) (v : Int) : List Nat := (List.range ns.length).filter (fun i => decide (ns.getD i 0 = v))
def nxR (s : Int) (r : Rul) (a : Int) (i : Nat) : List Int := [a, r.nx, (i : Int) % s, (i : Int) / s]
def nxL (s : Int) (r : Rul) (b : Int) (i : Nat) : List Int := [(i : Int) / s, r.nx, (i : Int) % s, b]
/-- The abstractions to which one leads. -/
def succA (s : Int) (rs : List Rul) (xs ys : List Int) (x : List Int) : List (List Int) :=
  if isR (ruleA s rs x) then
    (if (ruleA s rs x).mv = 1 then (fromD ys (x.getD 3 0)).map (nxR s (ruleA s rs x) (xs.getD (x.getD 0 0 * s + (ruleA s rs x).wr).toNat 0))
    else (fromD xs (x.getD 0 0)).map (nxL s (ruleA s rs x) (ys.getD (x.getD 3 0 * s + (ruleA s rs x).wr).toNat 0)))
  else []
def addA (L : List (List Int)) (y : List Int) : List (List Int) := if y ∈ L then L else L ++ [y]
theorem addA_mem {L : List (List Int)} {y z : List Int} : z ∈ addA L y ↔ z ∈ L ∨ z = y := by
  unfold addA
  split
  · rename_i h
    exact ⟨.inl, fun h2 => h2.elim id (fun e => e ▸ h)⟩
  · simp
theorem addF_memA {zs L : List (List Int)} {z : List Int} : z ∈ zs.foldl addA L ↔ z ∈ L ∨ z ∈ zs := by
  induction zs generalizing L with
  | nil => simp
  | cons y r ih => rw [List.foldl_cons, ih, addA_mem, List.mem_cons, or_assoc]
theorem addA_pre {L : List (List Int)} {y : List Int} {k : Nat} {x : List Int} (h : L[k]? = some x) : (addA L y)[k]? = some x := by
  unfold addA
  split
  · exact h
  · rw [List.getElem?_append_left (List.getElem?_eq_some_iff.1 h).1]; exact h
theorem addF_pre {zs L : List (List Int)} {k : Nat} {x : List Int} (h : L[k]? = some x) : (zs.foldl addA L)[k]? = some x := by
  induction zs generalizing L with
  | nil => exact h
  | cons y r ih => exact ih (addA_pre h)
theorem addA_len {L : List (List Int)} {y : List Int} : L.length ≤ (addA L y).length ∧ (addA L y).length ≤ L.length + 1 := by
  unfold addA
  split
  · omega
  · simp
theorem addF_len {zs L : List (List Int)} : L.length ≤ (zs.foldl addA L).length ∧ (zs.foldl addA L).length ≤ L.length + zs.length := by
  induction zs generalizing L with
  | nil => simp
  | cons y r ih =>
    have h1 := addA_len (L := L) (y := y)
    have h2 := ih (L := addA L y)
    simp only [List.foldl_cons, List.length_cons]
    omega
theorem addA_nd {L : List (List Int)} {y : List Int} (h : L.Nodup) : (addA L y).Nodup := by
  unfold addA
  split
  · exact h
  · rename_i hn
    exact List.nodup_append.2 ⟨h, by simp, fun a ha b hb => by
      obtain rfl := List.mem_singleton.1 hb
      rintro rfl
      exact hn ha⟩
theorem fromD_mem {ns : List Int} {v : Int} {i : Nat} : i ∈ fromD ns v ↔ i < ns.length ∧ ns.getD i 0 = v := by simp [fromD]
theorem fromD_len (ns : List Int) (v : Int) : (fromD ns v).length ≤ ns.length := by
  unfold fromD
  exact Nat.le_trans (List.length_filter_le _ _) (by simp)
theorem range_take (n k : Nat) (h : k ≤ n) : (List.range n).take k = List.range k := by
  rw [List.take_range, Nat.min_eq_left h]
/-- The search so far. -/
inductive ClA (s : Int) (rs : List Rul) (xs ys : List Int) : List (List Int) → Nat → Option (List (List Int)) → Prop
  | done {L k} (h : k = L.length) : ClA s rs xs ys L k (some L)
  | full {L k x} (h : L[k]? = some x) (h2 : 3000 < ((succA s rs xs ys x).foldl addA L).length) : ClA s rs xs ys L k none
  | more {L k x res} (h : L[k]? = some x) (h2 : ¬ 3000 < ((succA s rs xs ys x).foldl addA L).length) (hr : ClA s rs xs ys ((succA s rs xs ys x).foldl addA L) (k + 1) res) : ClA s rs xs ys L k res
theorem ClA.same {s : Int} {rs : List Rul} {xs ys : List Int} {L : List (List Int)} {k : Nat} {a b : Option (List (List Int))} (h1 : ClA s rs xs ys L k a) (h2 : ClA s rs xs ys L k b) : a = b := by
  induction h1 with
  | done h =>
    cases h2 with
    | done => rfl
    | full h' _ | more h' _ _ => rw [h, List.getElem?_eq_none (Nat.le_refl _)] at h'; cases h'
  | full h hf =>
    cases h2 with
    | done h' => rw [h', List.getElem?_eq_none (Nat.le_refl _)] at h; cases h
    | full => rfl
    | more h' hf' _ => rw [h] at h'; injection h' with h'; subst h'; exact absurd hf hf'
  | more h hf _ ih =>
    cases h2 with
    | done h' => rw [h', List.getElem?_eq_none (Nat.le_refl _)] at h; cases h
    | full h' hf' => rw [h] at h'; injection h' with h'; subst h'; exact absurd hf' hf
    | more h' _ hr' => rw [h] at h'; injection h' with h'; subst h'; exact ih hr'
def a0 : List (List Int) := [[0, 0, 0, 0]]
open Classical in
/-- Whether all that is reached has a rule, and there is room. -/
noncomputable def avA (s : Int) (rs : List Rul) (xs ys : List Int) : Bool := decide (∃ L, ClA s rs xs ys a0 0 (some L) ∧ L.all (fun x => isR (ruleA s rs x)) = true)
open Classical in
theorem avA_some {s : Int} {rs : List Rul} {xs ys : List Int} {L : List (List Int)} (h : ClA s rs xs ys a0 0 (some L)) : avA s rs xs ys = L.all (fun x => isR (ruleA s rs x)) := by
  unfold avA
  cases hb : L.all (fun x => isR (ruleA s rs x)) with
  | true => exact decide_eq_true ⟨L, h, hb⟩
  | false =>
    refine decide_eq_false ?_
    rintro ⟨L', h1, h2⟩
    have e := h.same h1
    injection e with e
    subst e
    rw [hb] at h2
    cases h2
open Classical in
theorem avA_none {s : Int} {rs : List Rul} {xs ys : List Int} (h : ClA s rs xs ys a0 0 none) : avA s rs xs ys = false := by
  unfold avA
  refine decide_eq_false ?_
  rintro ⟨L, h1, h2⟩
  have e := h.same h1
  cases e
/-- An abstraction. -/
def okA (s t a b : Int) (x : List Int) : Prop := ∃ x0 q c x3, x = [x0, q, c, x3] ∧ (0 ≤ x0 ∧ x0 < a) ∧ (0 ≤ q ∧ q < t) ∧ (0 ≤ c ∧ c < s) ∧ (0 ≤ x3 ∧ x3 < b)
theorem rule_a {s t a b : Int} {rs : List Rul} {x : List Int} (hm : okM s t rs = true) (h : okA s t a b x) : ∃ k : Nat, x.getD 1 0 * s + x.getD 2 0 = (k : Int) ∧ rs[k]? = some (ruleA s rs x) ∧ k ≤ 6000 := by
  obtain ⟨x0, q, c, x3, rfl, h0, h1, h2, h3⟩ := h
  obtain ⟨hs, ht, hl, _⟩ := okM_all hm
  have e1 := mul_bd h1.1 (show q ≤ t - 1 by omega) (show 0 ≤ s by omega) (Int.le_refl s)
  have e2 : (t - 1) * s = t * s - s := by rw [Int.sub_mul]; omega
  have e3 : t * s = s * t := Int.mul_comm _ _
  have e4 := mul_bd (show 0 ≤ s by omega) hs.2 (show 0 ≤ t by omega) ht.2
  refine ⟨(q * s + c).toNat, ?_, ?_, by omega⟩
  · show q * s + c = _
    omega
  · have hk : (q * s + c).toNat < rs.length := by omega
    show rs[(q * s + c).toNat]? = some (rs.getD (q * s + c).toNat noR)
    rw [List.getD_eq_getElem?_getD, List.getElem?_eq_getElem hk]; rfl
theorem isR_a {s t a b : Int} {rs : List Rul} {x : List Int} (hm : okM s t rs = true) (h : okA s t a b x) (hr : isR (ruleA s rs x) = true) : (0 ≤ (ruleA s rs x).wr ∧ (ruleA s rs x).wr ≤ s - 1) ∧ ((ruleA s rs x).mv = 1 ∨ (ruleA s rs x).mv = -1) ∧ (0 ≤ (ruleA s rs x).nx ∧ (ruleA s rs x).nx ≤ t - 1) := by
  obtain ⟨k, _, hk, _⟩ := rule_a hm h
  obtain ⟨_, _, _, hall⟩ := okM_all hm
  have h3 := List.all_eq_true.1 hall _ (List.mem_of_getElem? hk)
  simp only [okR, hr, Bool.not_true, Bool.false_or, Bool.and_eq_true, Bool.or_eq_true, decide_eq_true_eq, inB_true] at h3
  exact ⟨h3.1.1, h3.1.2, h3.2⟩
/-- Where an automaton goes. -/
theorem to_a {s a : Int} {ns : List Int} {q c : Int} (hd : dfB a ns s = true) (hq : 0 ≤ q ∧ q < a) (hc : 0 ≤ c ∧ c ≤ s - 1) : ∃ k : Nat, q * s + c = (k : Int) ∧ ns[k]? = some (ns.getD (q * s + c).toNat 0) ∧ k ≤ 120 ∧ (0 ≤ q * s ∧ q * s ≤ 120) ∧ (0 ≤ ns.getD (q * s + c).toNat 0 ∧ ns.getD (q * s + c).toNat 0 < a) := by
  obtain ⟨hs, ha, hl, hall, _⟩ := dfB_all hd
  have e1 := mul_bd hq.1 (show q ≤ a - 1 by omega) (show 0 ≤ s by omega) (Int.le_refl s)
  have e2 : (a - 1) * s = a * s - s := by rw [Int.sub_mul]; omega
  have e4 := mul_bd (show 0 ≤ a by omega) ha.2 (show 0 ≤ s by omega) hs.2
  have hk : (q * s + c).toNat < ns.length := by omega
  have e5 : ns[(q * s + c).toNat]? = some (ns.getD (q * s + c).toNat 0) := by rw [List.getD_eq_getElem?_getD, List.getElem?_eq_getElem hk]; rfl
  have h6 := hall _ (List.mem_of_getElem? e5)
  exact ⟨(q * s + c).toNat, by omega, e5, by omega, by omega, by omega⟩
theorem ix_a {s a : Int} {ns : List Int} {i : Nat} (hd : dfB a ns s = true) (hi : i < ns.length) : (0 ≤ (i : Int) % s ∧ (i : Int) % s < s) ∧ (0 ≤ (i : Int) / s ∧ (i : Int) / s < a) := by
  obtain ⟨hs, ha, hl, hall, _⟩ := dfB_all hd
  refine ⟨⟨Int.emod_nonneg _ (by omega), Int.emod_lt_of_pos _ (by omega)⟩, Int.ediv_nonneg (by omega) (by omega), ?_⟩
  exact Int.ediv_lt_of_lt_mul (by omega) (by omega)
theorem succ_ok {s t a b : Int} {rs : List Rul} {xs ys : List Int} {x : List Int} (hm : okM s t rs = true) (hx : dfB a xs s = true) (hy : dfB b ys s = true) (h : okA s t a b x) : ∀ z ∈ succA s rs xs ys x, okA s t a b z := by
  intro z hz
  unfold succA at hz
  split at hz
  · rename_i hr
    obtain ⟨r1, r2, r3⟩ := isR_a hm h hr
    obtain ⟨x0, q, c, x3, rfl, h0, h1, h2, h3⟩ := h
    split at hz
    · obtain ⟨i, hi, rfl⟩ := List.mem_map.1 hz
      have h5 := ix_a hy (fromD_mem.1 hi).1
      obtain ⟨k, _, _, _, _, h6⟩ := to_a hx h0 r1
      exact ⟨_, _, _, _, rfl, h6, by omega, h5.1, h5.2⟩
    · obtain ⟨i, hi, rfl⟩ := List.mem_map.1 hz
      have h5 := ix_a hx (fromD_mem.1 hi).1
      obtain ⟨k, _, _, _, _, h6⟩ := to_a hy h3 r1
      exact ⟨_, _, _, _, rfl, h5.2, by omega, h5.1, h6⟩
  · cases hz
theorem succ_len {s a b : Int} {rs : List Rul} {xs ys : List Int} {x : List Int} (hx : dfB a xs s = true) (hy : dfB b ys s = true) : (succA s rs xs ys x).length ≤ 120 := by
  obtain ⟨hs, ha, hl, _⟩ := dfB_all hx
  obtain ⟨_, hb, hl2, _⟩ := dfB_all hy
  have e4 := mul_bd (show 0 ≤ a by omega) ha.2 (show 0 ≤ s by omega) hs.2
  have e5 := mul_bd (show 0 ≤ b by omega) hb.2 (show 0 ≤ s by omega) hs.2
  have h1 := fromD_len ys (x.getD 3 0)
  have h2 := fromD_len xs (x.getD 0 0)
  unfold succA
  split
  · split
    · rw [List.length_map]; omega
    · rw [List.length_map]; omega
  · simp
theorem a0_ok {s t a b : Int} {rs : List Rul} {xs ys : List Int} (hm : okM s t rs = true) (hx : dfB a xs s = true) (hy : dfB b ys s = true) : ∀ z ∈ a0, okA s t a b z := by
  obtain ⟨hs, ha, _⟩ := dfB_all hx
  obtain ⟨_, hb, _⟩ := dfB_all hy
  obtain ⟨_, ht, _⟩ := okM_all hm
  intro z hz
  obtain rfl := List.mem_singleton.1 hz
  exact ⟨0, 0, 0, 0, rfl, by omega, by omega, by omega, by omega⟩
theorem addF_ok {P : List Int → Prop} {zs L : List (List Int)} (hL : ∀ z ∈ L, P z) (hz : ∀ z ∈ zs, P z) : ∀ z ∈ zs.foldl addA L, P z := fun z h => by
  rcases addF_memA.1 h with h | h
  · exact hL z h
  · exact hz z h
/-- The number of an abstraction. -/
def keyA (s t b : Int) (x : List Int) : Int := ((x.getD 0 0 * t + x.getD 1 0) * s + x.getD 2 0) * b + x.getD 3 0
def unkA (s t b : Int) (k : Int) : List Int := [k / b / s / t, k / b / s % t, k / b % s, k % b]
theorem key_step {a m r M : Int} (h0 : 0 ≤ a) (h1 : a < M) (h2 : 0 ≤ r) (h3 : r < m) : 0 ≤ a * m + r ∧ a * m + r < M * m := by
  have e1 := mul_bd h0 (show a ≤ M - 1 by omega) (show 0 ≤ m by omega) (Int.le_refl m)
  have e2 : (M - 1) * m = M * m - m := by rw [Int.sub_mul]; omega
  omega
theorem key_bd {s t a b : Int} {x : List Int} (h : okA s t a b x) : 0 ≤ keyA s t b x ∧ keyA s t b x < a * t * s * b := by
  obtain ⟨x0, q, c, x3, rfl, h0, h1, h2, h3⟩ := h
  have k1 := key_step h0.1 h0.2 h1.1 h1.2
  have k2 := key_step k1.1 k1.2 h2.1 h2.2
  exact key_step k2.1 k2.2 h3.1 h3.2
theorem div_step {a m r : Int} (h2 : 0 ≤ r) (h3 : r < m) : (a * m + r) / m = a ∧ (a * m + r) % m = r := by
  have hm : m ≠ 0 := by omega
  constructor
  · rw [Int.add_comm, Int.add_mul_ediv_right _ _ hm, Int.ediv_eq_zero_of_lt h2 h3]; omega
  · rw [Int.add_comm, Int.add_mul_emod_self_right, Int.emod_eq_of_lt h2 h3]
theorem unk_key {s t a b : Int} {x : List Int} (h : okA s t a b x) : unkA s t b (keyA s t b x) = x := by
  obtain ⟨x0, q, c, x3, rfl, h0, h1, h2, h3⟩ := h
  have d3 := div_step (a := (x0 * t + q) * s + c) h3.1 h3.2
  have d2 := div_step (a := x0 * t + q) h2.1 h2.2
  have d1 := div_step (a := x0) h1.1 h1.2
  show [(((x0 * t + q) * s + c) * b + x3) / b / s / t, (((x0 * t + q) * s + c) * b + x3) / b / s % t, (((x0 * t + q) * s + c) * b + x3) / b % s, (((x0 * t + q) * s + c) * b + x3) % b] = [x0, q, c, x3]
  rw [d3.1, d3.2, d2.1, d2.2, d1.1, d1.2]
theorem key_inj {s t a b : Int} {x y : List Int} (hx : okA s t a b x) (hy : okA s t a b y) (h : keyA s t b x = keyA s t b y) : x = y := by
  rw [← unk_key hx, ← unk_key hy, h]
open Classical in
/-- Which numbers have been seen. -/
noncomputable def seenA (s t b : Int) (N : Nat) (L : List (List Int)) : List Bool := (List.range N).map (fun j : Nat => decide (∃ x ∈ L, keyA s t b x = (j : Int)))
open Classical in
theorem seen_len {s t b : Int} {N : Nat} {L : List (List Int)} : (seenA s t b N L).length = N := by simp [seenA]
open Classical in
theorem seen_get {s t b : Int} {N : Nat} {L : List (List Int)} {j : Nat} (h : j < N) {bv : Bool} : (seenA s t b N L)[j]? = some bv ↔ (bv = true ↔ ∃ x ∈ L, keyA s t b x = (j : Int)) := by
  unfold seenA
  rw [List.getElem?_map, List.getElem?_range h]
  simp only [Option.map_some, Option.some.injEq]
  constructor
  · rintro rfl; simp
  · intro h2
    cases bv with
    | true => simp only [decide_eq_true_eq]; exact h2.1 rfl
    | false => simp only [decide_eq_false_iff_not]; exact fun h3 => by have := h2.2 h3; cases this
open Classical in
theorem seen_at {s t a b : Int} {N : Nat} {L : List (List Int)} {x : List Int} {k : Nat} (hL : ∀ z ∈ L, okA s t a b z) (hx : okA s t a b x) (hk : keyA s t b x = (k : Int)) (h : k < N) : (seenA s t b N L)[k]? = some (decide (x ∈ L)) := by
  rw [seen_get h, decide_eq_true_eq]
  constructor
  · exact fun h2 => ⟨x, h2, hk⟩
  · rintro ⟨z, hz, he⟩
    rw [key_inj hx (hL z hz) (hk.trans he.symm)]; exact hz
open Classical in
theorem seen_put {s t b : Int} {N : Nat} {L : List (List Int)} {x : List Int} {k : Nat} (hk : keyA s t b x = (k : Int)) (h : k < N) : (seenA s t b N L).set k true = seenA s t b N (L ++ [x]) := by
  apply List.ext_getElem?
  intro j
  by_cases hj : j < N
  · by_cases e : k = j
    · subst e
      rw [List.getElem?_set_self (by rw [seen_len]; exact h)]
      exact ((seen_get h).2 ⟨fun _ => ⟨x, by simp, hk⟩, fun _ => rfl⟩).symm
    · rw [List.getElem?_set_ne e]
      obtain ⟨bv, hb⟩ := get_some (xs := seenA s t b N L) (k := j) (by rw [seen_len]; exact hj)
      rw [hb]
      refine ((seen_get hj).2 ?_).symm
      rw [(seen_get hj).1 hb]
      constructor
      · rintro ⟨z, hz, he⟩; exact ⟨z, by simp [hz], he⟩
      · rintro ⟨z, hz, he⟩
        rcases List.mem_append.1 hz with hz | hz
        · exact ⟨z, hz, he⟩
        · obtain rfl := List.mem_singleton.1 hz
          rw [hk] at he
          omega
  · rw [List.getElem?_eq_none (by rw [List.length_set, seen_len]; omega), List.getElem?_eq_none (by rw [seen_len]; omega)]
open Classical in
theorem seen_nil {s t b : Int} {N : Nat} : seenA s t b N [] = List.replicate N false := by
  apply List.ext_getElem?
  intro j
  by_cases hj : j < N
  · rw [List.getElem?_replicate, if_pos hj]
    exact (seen_get hj).2 ⟨fun h => (by cases h), by rintro ⟨z, hz, _⟩; cases hz⟩
  · rw [List.getElem?_eq_none (by rw [seen_len]; omega), List.getElem?_eq_none (by simp; omega)]
/-- What AutomatonProof answers. -/
def auV (s t : Int) (rs : List Rul) (a : Int) (xs : List Int) (b : Int) (ys : List Int) : Bool := okM s t rs && dfB a xs s && dfB b ys s
noncomputable def auP (s t : Int) (rs : List Rul) (a : Int) (xs : List Int) (b : Int) (ys : List Int) : Int × List Int × List (List Int) × Int :=
  if auV s t rs a xs b ys then (if avA s rs xs ys then (7, [a, b] ++ xs ++ ys, [], 0) else (0, [], [], 6)) else (0, [], [], 1)
end Go.Proofs.Ytcpkhhammafchaa
