/- The code of a program, in plain Lean. -/
import Derived.Test.YtaadobggenbbdaaGreatDoorGG
import Derived.Test.YtaadobggenbbdaaGreatDoorGD
namespace Go.Proofs.YtaadobggenbbdaaGreatDoor
open Go.RowKit
set_option linter.unusedVariables false
set_option linter.unusedSimpArgs false
def codeCs : Nat → List Cmd → Tr
  | _, [] => .nil
  | 0, _ :: _ => .nil
  | f + 1, x :: r => if x.k = 0 then .node (.node (tagTr 7) (codeE x.e)) (codeCs f r) else .node (.node (tagTr 9) (.node (codeE x.e) (codeCs f (r.take x.l.toNat)))) (codeCs f (r.drop x.l.toNat))
theorem codeCs_fuel : ∀ (f g : Nat) (p : List Cmd), p.length ≤ f → p.length ≤ g → codeCs f p = codeCs g p
  | 0, g, [], _, _ => by cases g <;> rfl
  | 0, g, x :: r, h, _ => by simp at h
  | f + 1, g, [], _, _ => by cases g <;> rfl
  | f + 1, 0, x :: r, _, h => by simp at h
  | f + 1, g + 1, x :: r, hf, hg => by
    simp only [List.length_cons] at hf hg
    simp only [codeCs]
    rw [codeCs_fuel f g r (by omega) (by omega), codeCs_fuel f g (r.take x.l.toNat) (by rw [List.length_take]; omega) (by rw [List.length_take]; omega), codeCs_fuel f g (r.drop x.l.toNat) (by rw [List.length_drop]; omega) (by rw [List.length_drop]; omega)]
def codeC (p : List Cmd) : Tr := codeCs p.length p
theorem codeC_nil : codeC [] = .nil := rfl
theorem codeC_set {x : Cmd} {r : List Cmd} (h : x.k = 0) : codeC (x :: r) = .node (.node (tagTr 7) (codeE x.e)) (codeC r) := by
  show codeCs (r.length + 1) (x :: r) = _
  simp only [codeCs, if_pos h]; rfl
theorem codeC_wh {x : Cmd} {r : List Cmd} (h : x.k = 1) : codeC (x :: r) = .node (.node (tagTr 9) (.node (codeE x.e) (codeC (r.take x.l.toNat)))) (codeC (r.drop x.l.toNat)) := by
  show codeCs (r.length + 1) (x :: r) = _
  simp only [codeCs, if_neg (show ¬ x.k = 0 by omega), codeC]
  rw [codeCs_fuel r.length _ (r.take x.l.toNat) (by rw [List.length_take]; omega) (Nat.le_refl _), codeCs_fuel r.length _ (r.drop x.l.toNat) (by rw [List.length_drop]; omega) (Nat.le_refl _)]
/-- Trees ahead of a list's tree. -/
def lstA : List Tr → Tr → Tr
  | [], u => u
  | t :: r, u => .node t (lstA r u)
theorem lstA_snoc (ts : List Tr) (t u : Tr) : lstA (ts ++ [t]) u = lstA ts (.node t u) := by
  induction ts with
  | nil => rfl
  | cons y r ih => simp [lstA, ih]
theorem lstA_bits (ts : List Tr) : (lstA ts .nil).bits = ts.flatMap (fun t => true :: t.bits) ++ [false] := by
  induction ts with
  | nil => rfl
  | cons y r ih => simp [lstA, Tr.bits, ih]
theorem lstA_part (ts : List Tr) (k : Nat) : (lstA (ts.drop k) .nil).nodes ≤ (lstA ts .nil).nodes := by
  induction ts generalizing k with
  | nil => simp
  | cons y r ih =>
    cases k with
    | zero => simp
    | succ k => have := ih k; simp only [List.drop_succ_cons, lstA, Tr.nodes]; omega
theorem lstA_mem {ts : List Tr} {t : Tr} (h : t ∈ ts) : t.nodes ≤ (lstA ts .nil).nodes := by
  induction ts with
  | nil => simp at h
  | cons y r ih =>
    simp only [lstA, Tr.nodes]
    rcases List.mem_cons.1 h with rfl | h
    · omega
    · have := ih h; omega
theorem lstA_len (ts : List Tr) : ts.length ≤ (lstA ts .nil).nodes := by
  induction ts with
  | nil => simp
  | cons y r ih => simp only [lstA, Tr.nodes, List.length_cons]; omega
theorem codeE_wf {es : List El} (h : wfE es = true) : (codeE es).nodes ≤ 1600 := by
  obtain ⟨x, rfl, hg, hl, ho⟩ := wfE_ex h
  rw [codeE_els hg]
  have := x.code_nodes
  omega
/-- What a valid program's first command says. -/
theorem okC_split {x : Cmd} {r : List Cmd} (h : okC (x :: r) = true) : wfE x.e = true ∧ ((x.k = 0 ∧ x.l = 0 ∧ okC r = true) ∨ (x.k = 1 ∧ 0 ≤ x.l ∧ x.l ≤ r.length ∧ okC (r.take x.l.toNat) = true ∧ okC (r.drop x.l.toNat) = true)) := by
  rw [okC_cons] at h
  simp only [Bool.and_eq_true] at h
  obtain ⟨h1, h2⟩ := h
  refine ⟨h1, ?_⟩
  split at h2
  · rename_i hk
    simp only [Bool.and_eq_true, beq_iff_eq] at h2
    exact .inl ⟨hk, h2.1.2, h2.2⟩
  · split at h2
    · rename_i hk
      simp only [Bool.and_eq_true, beq_iff_eq] at h2
      have h3 := inB_true.1 h2.1.1.2
      exact .inr ⟨hk, h3.1, h3.2, h2.1.2, h2.2⟩
    · cases h2
theorem codeC_nodes : ∀ (n : Nat) (p : List Cmd), p.length ≤ n → okC p = true → (codeC p).nodes ≤ 2000 * p.length + 1
  | _, [], _, _ => by simp [codeC_nil, Tr.nodes]
  | 0, x :: r, h, _ => by simp at h
  | n + 1, x :: r, h, hok => by
    simp only [List.length_cons] at h
    obtain ⟨h1, h2⟩ := okC_split hok
    have he := codeE_wf h1
    rcases h2 with ⟨hk, hl, hr⟩ | ⟨hk, hl0, hl1, ht, hd⟩
    · rw [codeC_set hk]
      have h7 := tag_nodes 7
      have := codeC_nodes n r (by omega) hr
      simp only [Tr.nodes, List.length_cons]; omega
    · rw [codeC_wh hk]
      have h9 := tag_nodes 9
      have h3 := codeC_nodes n (r.take x.l.toNat) (by rw [List.length_take]; omega) ht
      have h4 := codeC_nodes n (r.drop x.l.toNat) (by rw [List.length_drop]; omega) hd
      rw [List.length_take] at h3
      rw [List.length_drop] at h4
      simp only [Tr.nodes, List.length_cons]
      have : min x.l.toNat r.length + (r.length - x.l.toNat) = r.length := by omega
      omega
/-- Whether no other variable than 0 occurs. -/
def ozC (x : Cmd) : Bool := (x.v == 0) && only0 x.e
def ozW (p : List Cmd) : Bool := p.all ozC
/-- The code of a program, and a code. -/
def cdwP (p : List Cmd) : List Bool × Int := if isW p then (if ozW p then (if (codeC p).nodes ≤ 2000 then ((codeC p).bits, 0) else ([], 5)) else ([], 2)) else ([], 1)
theorem cdw_bad {p : List Cmd} (h : isW p = false) : cdwP p = ([], 1) := by simp [cdwP, h]
theorem cdw_var {p : List Cmd} (h : isW p = true) (h2 : ozW p = false) : cdwP p = ([], 2) := by simp [cdwP, h, h2]
theorem cdw_full {p : List Cmd} (h : isW p = true) (h2 : ozW p = true) (h3 : ¬ (codeC p).nodes ≤ 2000) : cdwP p = ([], 5) := by simp only [cdwP, h, h2, if_true, if_neg h3]
theorem cdw_ok {p : List Cmd} (h : isW p = true) (h2 : ozW p = true) (h3 : (codeC p).nodes ≤ 2000) : cdwP p = ((codeC p).bits, 0) := by simp only [cdwP, h, h2, if_true, if_pos h3]
theorem isW_ok {p : List Cmd} (h : isW p = true) : p.length ≤ 80 ∧ okC p = true := by simpa [isW] using h
end Go.Proofs.YtaadobggenbbdaaGreatDoor
