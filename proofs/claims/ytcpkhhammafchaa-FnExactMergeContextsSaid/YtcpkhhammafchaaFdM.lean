/- FindContexts: how the sets grow (plain). -/
import Derived.Test.YtcpkhhammafchaaPu
import Derived.Test.YtcpkhhammafchaaGF
import Derived.Test.YtcpkhhammafchaaGD
namespace Go.Proofs.Ytcpkhhammafchaa
open Go.RowKit
set_option linter.unusedVariables false
set_option linter.unusedSimpArgs false
/-- Windows on both sides and contexts with their states in front, each in order. -/
structure St3 where
  l : List (List Int)
  r : List (List Int)
  c : List (List Int)
def St3.size (S : St3) : Nat := S.l.length + S.r.length + S.c.length
/-- The sets behind the lost window. -/
def winF (r : Rul) (y : List Int) (S : St3) : St3 := if r.mv = 1 then ⟨putL S.l (lostOf r y), S.r, S.c⟩ else ⟨S.l, putL S.r (lostOf r y), S.c⟩
/-- The contexts that a context asks for, with the state in front. -/
def nxF (s : Nat) (r : Rul) (y : List Int) (S : St3) : List (List Int) := (nextsOf s r y S.l S.r).map (fun z => r.nx :: z)
def addF (ys : List (List Int)) (S : St3) : St3 := ⟨S.l, S.r, ys.foldl putL S.c⟩
def growF (s : Nat) (rs : List Rul) (S : St3) (st : Int) (y : List Int) : Option St3 :=
  if isR (ruleOf s rs st y) then some (addF (nxF s (ruleOf s rs st y) y (winF (ruleOf s rs st y) y S)) (winF (ruleOf s rs st y) y S)) else none
def growR (s : Nat) (rs : List Rul) (S : St3) (x : List Int) : Option St3 := growF s rs S (x.getD 0 0) (x.drop 1)
def roundF (s : Nat) (rs : List Rul) (S : St3) : List (List Int) → Option St3
  | [] => some S
  | x :: xs => (growR s rs S x).bind (fun S' => roundF s rs S' xs)
theorem roundF_cons {s : Nat} {rs : List Rul} {S : St3} {y : List Int} {xs : List (List Int)} : roundF s rs S (y :: xs) = (growR s rs S y).bind (fun S' => roundF s rs S' xs) := rfl
theorem roundF_one {s : Nat} {rs : List Rul} {S : St3} {y : List Int} : roundF s rs S [y] = growR s rs S y := by
  rw [roundF_cons]
  cases growR s rs S y <;> rfl
theorem roundF_app {s : Nat} {rs : List Rul} : ∀ {xs ys : List (List Int)} {S S1 : St3}, roundF s rs S xs = some S1 → roundF s rs S (xs ++ ys) = roundF s rs S1 ys
  | [], ys, S, S1, h => by
    have e : S = S1 := by simpa [roundF] using h
    subst e; rfl
  | y :: xs, ys, S, S1, h => by
    rw [roundF_cons] at h
    rw [List.cons_append, roundF_cons]
    obtain ⟨S', h1, h2⟩ := Option.bind_eq_some_iff.1 h
    rw [h1]
    exact roundF_app h2
theorem roundF_snoc {s : Nat} {rs : List Rul} {xs : List (List Int)} {S S1 : St3} {x : List Int} (h : roundF s rs S xs = some S1) : roundF s rs S (xs ++ [x]) = growR s rs S1 x := by
  rw [roundF_app h, roundF_one]
theorem roundF_none {s : Nat} {rs : List Rul} {xs ys : List (List Int)} {S S1 : St3} {x : List Int} (h : roundF s rs S xs = some S1) (hx : growR s rs S1 x = none) : roundF s rs S (xs ++ x :: ys) = none := by
  rw [roundF_app h, roundF_cons, hx]; rfl
def letB (s : Nat) (n : Nat) (x : List Int) : Prop := x.length = n ∧ ∀ z ∈ x, 0 ≤ z ∧ z ≤ (s : Int) - 1
def rowB (s : Nat) (t : Int) (rs : List Rul) (n : Nat) (x : List Int) : Prop := ∃ st y, x = st :: y ∧ ctxC s t rs st y = 0 ∧ y.length = 2 * n + 1
structure InvF (s : Nat) (t : Int) (rs : List Rul) (n : Nat) (S : St3) : Prop where
  rl : Rises S.l
  rr : Rises S.r
  rc : Rises S.c
  wl : ∀ x ∈ S.l, letB s n x
  wr : ∀ x ∈ S.r, letB s n x
  wc : ∀ x ∈ S.c, rowB s t rs n x
theorem foldl_mem {ys : List (List Int)} {c : List (List Int)} (hc : Rises c) {z : List Int} : z ∈ ys.foldl putL c ↔ z ∈ c ∨ z ∈ ys := (foldl_putL hc).2 z
theorem rule_in {s : Nat} {t st : Int} {rs : List Rul} {y : List Int} (h : ctxC s t rs st y = 0) (h2 : isR (ruleOf s rs st y) = true) : (0 ≤ (ruleOf s rs st y).wr ∧ (ruleOf s rs st y).wr ≤ (s : Int) - 1) ∧ (0 ≤ (ruleOf s rs st y).nx ∧ (ruleOf s rs st y).nx ≤ t - 1) := by
  obtain ⟨h1, _⟩ := ctx_zero h
  obtain ⟨_, _, _, hall⟩ := okM_all h1
  obtain ⟨k, _, hk, _⟩ := rule_get h
  have h3 := List.all_eq_true.1 hall _ (List.mem_of_getElem? hk)
  simp only [okR, h2, Bool.not_true, Bool.false_or, Bool.and_eq_true, Bool.or_eq_true, decide_eq_true_eq, inB_true] at h3
  exact ⟨h3.1.1, h3.2⟩
theorem ctx_let {s : Nat} {t st : Int} {rs : List Rul} {y : List Int} (h : ctxC s t rs st y = 0) : ∀ z ∈ y, 0 ≤ z ∧ z ≤ (s : Int) - 1 := fun z hz => allIn_true.1 (ctx_zero h).2.2.2.1 z hz
theorem lost_let {s n : Nat} {t st : Int} {rs : List Rul} {y : List Int} (h : ctxC s t rs st y = 0) (hl : y.length = 2 * n + 1) (r : Rul) : letB s n (lostOf r y) := by
  have e : y.length / 2 = n := by omega
  unfold lostOf
  rw [e]
  split
  · exact ⟨by rw [List.length_take]; omega, fun z hz => ctx_let h z (List.mem_of_mem_take hz)⟩
  · exact ⟨by rw [List.length_drop]; omega, fun z hz => ctx_let h z (List.mem_of_mem_drop hz)⟩
theorem nexts_let {s n : Nat} {t st : Int} {rs : List Rul} {y : List Int} {ls ws : List (List Int)} (h : ctxC s t rs st y = 0) (h2 : isR (ruleOf s rs st y) = true) (hl : y.length = 2 * n + 1) (hn : 1 ≤ n) : ∀ z ∈ nextsOf s (ruleOf s rs st y) y ls ws, letB s (2 * n + 1) z := by
  intro z hz
  have hc := ctx_let h
  have hr := (rule_in h h2).1
  have e : y.length / 2 = n := by omega
  generalize ruleOf s rs st y = r at *
  unfold nextsOf at hz
  rw [e] at hz
  have hg : ∀ k, 0 ≤ y.getD k 0 ∧ y.getD k 0 ≤ (s : Int) - 1 ∨ ¬ k < y.length := fun k => by
    by_cases hk : k < y.length
    · left
      have : y.getD k 0 = y[k] := by simp [List.getD_eq_getElem?_getD, List.getElem?_eq_getElem hk]
      rw [this]; exact hc _ (List.getElem_mem hk)
    · exact Or.inr hk
  split at hz
  · obtain ⟨i, hi, rfl⟩ := nx_mem hz
    refine ⟨by simp only [List.length_append, List.length_cons, List.length_take, List.length_drop, List.length_nil]; omega, fun a ha => ?_⟩
    simp only [List.append_assoc, List.mem_append, List.mem_cons, List.not_mem_nil, or_false] at ha
    rcases ha with (rfl | ha) | rfl | ha | rfl
    · exact hr
    · exact hc a (List.mem_of_mem_take ha)
    · rcases hg (n + 1) with h | h
      · exact h
      · omega
    · exact hc a (List.mem_of_mem_drop ha)
    · omega
  · obtain ⟨i, hi, rfl⟩ := nx_mem hz
    refine ⟨by simp only [List.length_append, List.length_cons, List.length_take, List.length_drop, List.length_nil]; omega, fun a ha => ?_⟩
    simp only [List.append_assoc, List.mem_append, List.mem_cons, List.not_mem_nil, or_false, false_or, List.nil_append] at ha
    rcases ha with ha | rfl | rfl | rfl | ha
    · exact hc a (List.mem_of_mem_take (List.mem_of_mem_drop ha))
    · omega
    · rcases hg 0 with h | h
      · exact h
      · omega
    · exact hr
    · exact hc a (List.mem_of_mem_drop (List.mem_of_mem_take ha))
theorem next_row {s n : Nat} {t st : Int} {rs : List Rul} {y : List Int} {ls ws : List (List Int)} (h : ctxC s t rs st y = 0) (h2 : isR (ruleOf s rs st y) = true) (hl : y.length = 2 * n + 1) {z : List Int} (hz : z ∈ nextsOf s (ruleOf s rs st y) y ls ws) : ctxC s t rs (ruleOf s rs st y).nx z = 0 ∧ z.length = 2 * n + 1 := by
  obtain ⟨h1, _, h3, _⟩ := ctx_zero h
  have hz := nexts_let h h2 hl (by omega) z hz
  have hr := (rule_in h h2).2
  refine ⟨ctx_ok h1 (by rw [hz.1]; omega) (inB_true.2 (by rw [hz.1]; omega)) (allIn_true.2 hz.2) (inB_true.2 hr), hz.1⟩
theorem winF_inv {s n : Nat} {t st : Int} {rs : List Rul} {y : List Int} {S : St3} (hi : InvF s t rs n S) (h : ctxC s t rs st y = 0) (hl : y.length = 2 * n + 1) (r : Rul) : InvF s t rs n (winF r y S) := by
  have hw := lost_let h hl r
  unfold winF
  split
  · exact ⟨putL_rises hi.rl, hi.rr, hi.rc, fun x hx => by rcases putL_mem.1 hx with hx | rfl; exact hi.wl x hx; exact hw, hi.wr, hi.wc⟩
  · exact ⟨hi.rl, putL_rises hi.rr, hi.rc, hi.wl, fun x hx => by rcases putL_mem.1 hx with hx | rfl; exact hi.wr x hx; exact hw, hi.wc⟩
theorem addF_inv {s n : Nat} {t : Int} {rs : List Rul} {ys : List (List Int)} {S : St3} (hi : InvF s t rs n S) (h : ∀ x ∈ ys, rowB s t rs n x) : InvF s t rs n (addF ys S) :=
  ⟨hi.rl, hi.rr, (foldl_putL hi.rc).1, hi.wl, hi.wr, fun x hx => by rcases (foldl_mem hi.rc).1 hx with hx | hx; exact hi.wc x hx; exact h x hx⟩
theorem nxF_row {s n : Nat} {t st : Int} {rs : List Rul} {y : List Int} {S : St3} (h : ctxC s t rs st y = 0) (h2 : isR (ruleOf s rs st y) = true) (hl : y.length = 2 * n + 1) : ∀ x ∈ nxF s (ruleOf s rs st y) y S, rowB s t rs n x := fun x hx => by
  obtain ⟨z, hz, rfl⟩ := List.mem_map.1 hx
  exact ⟨_, z, rfl, next_row h h2 hl hz⟩
theorem growF_inv {s n : Nat} {t st : Int} {rs : List Rul} {y : List Int} {S S' : St3} (hi : InvF s t rs n S) (h : ctxC s t rs st y = 0) (hl : y.length = 2 * n + 1) (hg : growF s rs S st y = some S') : InvF s t rs n S' := by
  unfold growF at hg
  split at hg
  · rename_i h2
    injection hg with hg
    subst hg
    exact addF_inv (winF_inv hi h hl _) (nxF_row h h2 hl)
  · simp at hg
theorem growR_inv {s n : Nat} {t : Int} {rs : List Rul} {x : List Int} {S S' : St3} (hi : InvF s t rs n S) (h : rowB s t rs n x) (hg : growR s rs S x = some S') : InvF s t rs n S' := by
  obtain ⟨st, y, rfl, h1, h2⟩ := h
  exact growF_inv hi h1 h2 hg
theorem roundF_inv {s n : Nat} {t : Int} {rs : List Rul} : ∀ {xs : List (List Int)} {S S' : St3}, InvF s t rs n S → (∀ x ∈ xs, rowB s t rs n x) → roundF s rs S xs = some S' → InvF s t rs n S'
  | [], S, S', hi, _, h => by simp only [roundF] at h; injection h with h; subst h; exact hi
  | x :: xs, S, S', hi, hx, h => by
    rw [roundF_cons] at h
    obtain ⟨S1, hg, h⟩ := Option.bind_eq_some_iff.1 h
    exact roundF_inv (growR_inv hi (hx x List.mem_cons_self) hg) (fun z hz => hx z (List.mem_cons_of_mem _ hz)) h
/-- How many rows a word more makes. -/
theorem putL_len : ∀ {l : List (List Int)} {x : List Int}, Rises l → (putL l x).length = l.length + (if x ∈ l then 0 else 1) := by
  intro l x hr
  split
  · rename_i h; rw [rises_ext (putL_rises hr) hr (fun z => by rw [putL_mem]; constructor; rintro (h1 | rfl); exact h1; exact h; exact Or.inl)]; rfl
  · rename_i h
    have hp : (putL l x).Perm (x :: l) := by
      refine (List.perm_ext_iff_of_nodup (nodup_rises (putL_rises hr)) ?_).2 (fun z => by rw [putL_mem, List.mem_cons]; exact ⟨fun h => h.symm, fun h => h.symm⟩)
      exact List.nodup_cons.2 ⟨h, nodup_rises hr⟩
    rw [hp.length_eq, List.length_cons]
theorem foldl_len : ∀ {ys c : List (List Int)}, Rises c → c.length ≤ (ys.foldl putL c).length ∧ (ys.foldl putL c).length ≤ c.length + ys.length
  | [], c, hc => ⟨Nat.le_refl _, Nat.le_refl _⟩
  | y :: ys, c, hc => by
    have h1 := foldl_len (ys := ys) (putL_rises hc (x := y))
    have h2 := putL_len hc (x := y)
    simp only [List.foldl_cons, List.length_cons]
    split at h2 <;> omega
theorem winF_size {r : Rul} {y : List Int} {S : St3} (h1 : Rises S.l) (h2 : Rises S.r) : (winF r y S).size = S.size + (if lostOf r y ∈ (if r.mv = 1 then S.l else S.r) then 0 else 1) := by
  unfold winF St3.size
  split
  · simp only [putL_len h1]; omega
  · simp only [putL_len h2]; omega
theorem ite01 (p : Prop) [Decidable p] : (if p then 0 else 1) ≤ 1 := by split <;> omega
theorem growR_size {s n : Nat} {t : Int} {rs : List Rul} {x : List Int} {S S' : St3} (hi : InvF s t rs n S) (hs : s ≤ 6) (hg : growR s rs S x = some S') : S.size ≤ S'.size ∧ S'.size ≤ S.size + 7 := by
  unfold growR growF at hg
  split at hg
  · injection hg with hg
    subst hg
    generalize ruleOf (↑s) rs (x.getD 0 0) (x.drop 1) = r
    have h1 := winF_size (r := r) (y := x.drop 1) hi.rl hi.rr
    have hc : (winF r (x.drop 1) S).c = S.c := by unfold winF; split <;> rfl
    have h2 := foldl_len (ys := nxF s r (x.drop 1) (winF r (x.drop 1) S)) (c := (winF r (x.drop 1) S).c) (by rw [hc]; exact hi.rc)
    have h3 : (nxF s r (x.drop 1) (winF r (x.drop 1) S)).length ≤ s := by unfold nxF; rw [List.length_map]; exact nexts_len _ _ _ _ _
    obtain ⟨e, he, h1⟩ : ∃ e, e ≤ 1 ∧ (winF r (x.drop 1) S).size = S.size + e := ⟨_, ite01 _, h1⟩
    simp only [St3.size, addF] at h1 ⊢
    omega
  · simp at hg
theorem roundF_size {s n : Nat} {t : Int} {rs : List Rul} (hs : s ≤ 6) : ∀ {xs : List (List Int)} {S S' : St3}, InvF s t rs n S → (∀ x ∈ xs, rowB s t rs n x) → roundF s rs S xs = some S' → S.size ≤ S'.size ∧ S'.size ≤ S.size + 7 * xs.length
  | [], S, S', hi, _, h => by simp only [roundF] at h; injection h with h; subst h; simp
  | x :: xs, S, S', hi, hx, h => by
    rw [roundF_cons] at h
    obtain ⟨S1, hg, h⟩ := Option.bind_eq_some_iff.1 h
    · have h1 := growR_size hi hs hg
      have h2 := roundF_size hs (growR_inv hi (hx x List.mem_cons_self) hg) (fun z hz => hx z (List.mem_cons_of_mem _ hz)) h
      simp only [List.length_cons]
      omega
/-- What the program keeps is in no order. -/
theorem nx_congr {P F Q : List Int} {ws ws' : List (List Int)} (h : ∀ z, z ∈ ws ↔ z ∈ ws') : ∀ s, nx P F Q ws s = nx P F Q ws' s
  | 0 => rfl
  | s + 1 => by simp only [nx, nx_congr h s, h]
theorem nexts_congr {s : Nat} {r : Rul} {y : List Int} {ls ls' ws ws' : List (List Int)} (h1 : ∀ z, z ∈ ls ↔ z ∈ ls') (h2 : ∀ z, z ∈ ws ↔ z ∈ ws') : nextsOf s r y ls ws = nextsOf s r y ls' ws' := by
  unfold nextsOf
  rw [nx_congr h1, nx_congr h2]
theorem sortU_app (a b : List (List Int)) : sortU (a ++ b) = b.foldl putL (sortU a) := by unfold sortU; rw [List.foldl_append]
/-- The search's result: kind, numbers, words and code. -/
abbrev ResF := Int × List Int × List (List Int) × Int
def prF (n : Nat) (S : St3) : ResF :=
  if okP 8 ([(n : Int), (S.l.length : Int), (S.r.length : Int)] ++ S.c.map (fun x => x.getD 0 0)) (S.l ++ S.r ++ S.c.map (fun x => x.drop 1)) then
    (8, [(n : Int), (S.l.length : Int), (S.r.length : Int)] ++ S.c.map (fun x => x.getD 0 0), S.l ++ S.r ++ S.c.map (fun x => x.drop 1), 0)
  else (0, [], [], 5)
def okF (n : Nat) (S : St3) : Bool := okP 8 ([(n : Int), (S.l.length : Int), (S.r.length : Int)] ++ S.c.map (fun x => x.getD 0 0)) (S.l ++ S.r ++ S.c.map (fun x => x.drop 1))
theorem okF_size {n : Nat} {S : St3} (h : okF n S = true) : S.size ≤ 300 := by
  have h1 := (okP_bd h).2.2.1
  simp only [List.length_append, List.length_map] at h1
  exact h1
inductive FdR (s : Nat) (rs : List Rul) (n : Nat) : St3 → ResF → Prop
  | stuck {S} (h : roundF s rs S S.c = none) : FdR s rs n S (0, [], [], 3)
  | full {S S'} (h : roundF s rs S S.c = some S') (h2 : okF n S' = false) : FdR s rs n S (0, [], [], 5)
  | stop {S S'} (h : roundF s rs S S.c = some S') (h2 : okF n S' = true) (h3 : S'.size = S.size) : FdR s rs n S (prF n S')
  | more {S S' res} (h : roundF s rs S S.c = some S') (h2 : okF n S' = true) (h3 : ¬ S'.size = S.size) (hr : FdR s rs n S' res) : FdR s rs n S res
theorem FdR.same {s : Nat} {rs : List Rul} {n : Nat} {S : St3} {a b : ResF} (h1 : FdR s rs n S a) (h2 : FdR s rs n S b) : a = b := by
  induction h1 with
  | stuck h =>
    cases h2 with
    | stuck => rfl
    | full h' _ | stop h' _ _ | more h' _ _ _ => rw [h] at h'; simp at h'
  | full h hf =>
    cases h2 with
    | stuck h' => rw [h] at h'; simp at h'
    | full => rfl
    | stop h' hf' _ | more h' hf' _ _ => rw [h] at h'; injection h' with h'; subst h'; rw [hf] at hf'; simp at hf'
  | stop h hf hz =>
    cases h2 with
    | stuck h' => rw [h] at h'; simp at h'
    | full h' hf' => rw [h] at h'; injection h' with h'; subst h'; rw [hf] at hf'; simp at hf'
    | stop h' _ _ => rw [h] at h'; injection h' with h'; subst h'; rfl
    | more h' _ hz' _ => rw [h] at h'; injection h' with h'; subst h'; exact absurd hz hz'
  | more h hf hz _ ih =>
    cases h2 with
    | stuck h' => rw [h] at h'; simp at h'
    | full h' hf' => rw [h] at h'; injection h' with h'; subst h'; rw [hf] at hf'; simp at hf'
    | stop h' _ hz' => rw [h] at h'; injection h' with h'; subst h'; exact absurd hz' hz
    | more h' _ _ hr' => rw [h] at h'; injection h' with h'; subst h'; exact ih hr'
open Classical in
noncomputable def fdP (s : Nat) (rs : List Rul) (n : Nat) (S : St3) : ResF := if h : ∃ a, FdR s rs n S a then h.choose else (0, [], [], 0)
theorem fdP_of {s : Nat} {rs : List Rul} {n : Nat} {S : St3} {a : ResF} (h : FdR s rs n S a) : fdP s rs n S = a := by
  have hx : ∃ a, FdR s rs n S a := ⟨a, h⟩
  unfold fdP
  rw [dif_pos hx]
  exact hx.choose_spec.same h
def st0 (n : Nat) : St3 := ⟨[List.replicate n 0], [List.replicate n 0], [List.replicate (2 * n + 2) 0]⟩
theorem st0_inv {s : Nat} {t : Int} {rs : List Rul} {n : Nat} (hm : okM s t rs = true) (hn : 1 ≤ n ∧ n ≤ 4) : InvF s t rs n (st0 n) := by
  obtain ⟨hs, ht, _⟩ := okM_all hm
  have key : ∀ k, ∀ x ∈ [List.replicate k (0 : Int)], letB s k x := fun k x hx => by
    obtain rfl := List.mem_singleton.1 hx
    exact ⟨by simp, fun z hz => by rw [List.eq_of_mem_replicate hz]; omega⟩
  refine ⟨List.pairwise_singleton _ _, List.pairwise_singleton _ _, List.pairwise_singleton _ _, key n, key n, fun x hx => ?_⟩
  obtain rfl := List.mem_singleton.1 hx
  refine ⟨0, List.replicate (2 * n + 1) 0, rfl, ctx_ok hm (by rw [List.length_replicate]; omega) (inB_true.2 (by rw [List.length_replicate]; omega)) (allIn_true.2 (fun z hz => by rw [List.eq_of_mem_replicate hz]; omega)) (inB_true.2 (by omega)), by simp⟩
theorem st0_sort (n : Nat) : sortU [List.replicate n (0 : Int)] = [List.replicate n 0] := sortU_of (List.pairwise_singleton _ _) (fun z => Iff.rfl)
noncomputable def fcP (s t : Int) (rs : List Rul) (n : Int) : ResF := if okM s t rs then (if inB n 1 4 then fdP s.toNat rs n.toNat (st0 n.toNat) else (0, [], [], 2)) else (0, [], [], 1)
end Go.Proofs.Ytcpkhhammafchaa
