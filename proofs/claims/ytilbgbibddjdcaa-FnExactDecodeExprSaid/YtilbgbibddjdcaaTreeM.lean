/- Trees in plain Lean: their bits, the scan that tells whether bits are a tree, the forest of a suffix. -/
import Derived.Test.YtilbgbibddjdcaaLawB
namespace Go.Proofs.Ytilbgbibddjdcaa
open Go.RowKit

inductive Tr where
  | nil
  | node (h t : Tr)
def Tr.nodes : Tr → Nat
  | .nil => 1
  | .node h t => 1 + h.nodes + t.nodes
def Tr.bits : Tr → List Bool
  | .nil => [false]
  | .node h t => true :: (h.bits ++ t.bits)
theorem Tr.bits_len : ∀ t : Tr, t.bits.length = t.nodes
  | .nil => rfl
  | .node h t => by simp only [Tr.bits, Tr.nodes, List.length_cons, List.length_append, h.bits_len, t.bits_len]; omega
theorem Tr.nodes_pos : ∀ t : Tr, 1 ≤ t.nodes
  | .nil => Nat.le_refl _
  | .node h t => by simp only [Tr.nodes]; omega

/-- What is left behind n trees. -/
def scan : List Bool → Nat → Option (List Bool)
  | r, 0 => some r
  | [], _ + 1 => none
  | b :: r, n + 1 => scan r (if b then n + 2 else n)
theorem scan_bits : ∀ (t : Tr) (r : List Bool) (n : Nat), scan (t.bits ++ r) (n + 1) = scan r n
  | .nil, r, n => by cases n <;> simp [Tr.bits, scan]
  | .node h t, r, n => by
    have e : (Tr.node h t).bits ++ r = true :: (h.bits ++ (t.bits ++ r)) := by simp [Tr.bits]
    rw [e]
    show scan (h.bits ++ (t.bits ++ r)) (n + 1 + 1) = _
    rw [scan_bits h, scan_bits t]
/-- The trees of a suffix, from the right. -/
def forest : List Bool → List Tr
  | [] => []
  | false :: r => .nil :: forest r
  | true :: r => match forest r with
    | h :: t :: rest => .node h t :: rest
    | ts => ts
theorem forest_nil : forest [] = [] := rfl
theorem forest_false (r : List Bool) : forest (false :: r) = .nil :: forest r := rfl
theorem forest_true {r : List Bool} {h t : Tr} {rest : List Tr} (e : forest r = h :: t :: rest) : forest (true :: r) = .node h t :: rest := by simp [forest, e]
theorem scan_forest : ∀ (bs : List Bool) (n : Nat), scan bs n = some [] → (forest bs).length = n ∧ (forest bs).flatMap Tr.bits = bs
  | [], 0, _ => by simp [forest]
  | [], n + 1, h => by simp [scan] at h
  | b :: r, 0, h => by simp [scan] at h
  | false :: r, n + 1, h => by
    obtain ⟨h1, h2⟩ := scan_forest r n h
    rw [forest_false]
    exact ⟨by simp [h1], by simp [h2, Tr.bits]⟩
  | true :: r, n + 1, h => by
    obtain ⟨h1, h2⟩ := scan_forest r (n + 2) h
    match hf : forest r, h1, h2 with
    | x :: y :: rest, h1, h2 =>
      rw [forest_true hf]
      simp only [List.length_cons] at h1
      refine ⟨by simp only [List.length_cons]; omega, ?_⟩
      rw [← h2]
      simp [Tr.bits]
/-- The scan's count at each place. -/
def needAt (bs : List Bool) : Nat → Nat
  | 0 => 1
  | k + 1 => if bs[k]? = some true then needAt bs k + 1 else needAt bs k - 1
theorem need_scan (bs : List Bool) (h : scan bs 1 = some []) : ∀ k, k ≤ bs.length → scan (bs.drop k) (needAt bs k) = some []
  | 0, _ => by simpa [needAt] using h
  | k + 1, hk => by
    have ih := need_scan bs h k (by omega)
    obtain ⟨b, hb⟩ : ∃ b, bs[k]? = some b := ⟨bs[k], by simp⟩
    have hd : bs.drop k = b :: bs.drop (k + 1) := by
      rw [List.drop_eq_getElem_cons (by omega)]
      rw [List.getElem?_eq_getElem (by omega)] at hb
      injection hb with hb
      rw [hb]
    rw [hd] at ih
    cases hn : needAt bs k with
    | zero => rw [hn] at ih; simp [scan] at ih
    | succ m =>
      rw [hn] at ih
      simp only [scan] at ih
      simp only [needAt, hb, hn]
      cases b
      · simpa using ih
      · simpa using ih
def isTr (bs : List Bool) : Bool := decide (bs.length ≤ 2000) && (scan bs 1 == some [])
theorem isTr_tree {bs : List Bool} (h : isTr bs = true) : ∃ t : Tr, bs = t.bits ∧ t.nodes ≤ 2000 := by
  simp only [isTr, Bool.and_eq_true, decide_eq_true_eq, beq_iff_eq] at h
  obtain ⟨h1, h2⟩ := scan_forest bs 1 h.2
  match hf : forest bs, h1, h2 with
  | [t], _, h2 =>
    have e : bs = t.bits := by rw [← h2]; simp
    exact ⟨t, e, by rw [← t.bits_len, ← e]; exact h.1⟩
theorem isTr_bits {t : Tr} (h : t.nodes ≤ 2000) : isTr t.bits = true := by
  have e := scan_bits t [] 0
  simp only [List.append_nil] at e
  simp only [isTr, Bool.and_eq_true, decide_eq_true_eq, beq_iff_eq]
  exact ⟨by rw [t.bits_len]; exact h, by rw [e]; rfl⟩
theorem scan_whole (t : Tr) : scan t.bits 1 = some [] := by
  have e := scan_bits t [] 0
  simp only [List.append_nil] at e
  rw [e]; rfl
theorem forest_bits (t : Tr) : forest t.bits = [t] := by
  have key : ∀ (t : Tr) (r : List Bool), forest (t.bits ++ r) = t :: forest r := by
    intro t
    induction t with
    | nil => intro r; rfl
    | node h t ih1 ih2 =>
      intro r
      have e : (Tr.node h t).bits ++ r = true :: (h.bits ++ (t.bits ++ r)) := by simp [Tr.bits]
      rw [e]
      exact forest_true (by rw [ih1, ih2])
  have := key t []
  simpa [forest] using this
theorem bits_inj {a b : Tr} (h : a.bits = b.bits) : a = b := by
  have := forest_bits a
  rw [h, forest_bits b] at this
  simpa using this.symm
/-- A tree mirrored. -/
def Tr.mirror : Tr → Tr
  | .nil => .nil
  | .node h t => .node t.mirror h.mirror
theorem Tr.mirror_nodes : ∀ t : Tr, t.mirror.nodes = t.nodes
  | .nil => rfl
  | .node h t => by simp only [Tr.mirror, Tr.nodes, h.mirror_nodes, t.mirror_nodes]; omega
end Go.Proofs.Ytilbgbibddjdcaa
