/- Texts of programs, in plain Lean: their bytes and their commands. -/
import Derived.Test.YtadmbphefpfbmaaGreatDoorGG
namespace Go.Proofs.YtadmbphefpfbmaaGreatDoor
open Go.RowKit
set_option linter.unusedVariables false
set_option linter.unusedSimpArgs false
/-- The letter of an element. -/
def lf (x : El) : Nat := if x.1 = 0 then 110 else 48 + x.2.toNat
def uf (x : El) : Nat := if x.1 = 3 then 104 else 116
def sf (x : El) : Nat := if x.1 = 2 then 46 else 63
def Ex.rn : Ex → List Nat
  | .leaf x => [lf x]
  | .un x a => uf x :: a.rn
  | .bin x a b => 40 :: (a.rn ++ sf x :: (b.rn ++ [41]))
def Ex.ok : Ex → Prop
  | .leaf x => x = (0, 0) ∨ ∃ d : Nat, d ≤ 5 ∧ x = (1, (d : Int))
  | .un x a => (x = (3, 0) ∨ x = (4, 0)) ∧ a.ok
  | .bin x a b => (x = (2, 0) ∨ x = (5, 0)) ∧ a.ok ∧ b.ok
def Ex.deep : Ex → Nat
  | .leaf _ => 1
  | .un _ a => a.deep + 1
  | .bin _ a b => max a.deep b.deep + 1
theorem Ex.deep_pos (x : Ex) : 1 ≤ x.deep := by cases x <;> simp [Ex.deep]
theorem Ex.rn_pos (x : Ex) : 1 ≤ x.rn.length := by cases x <;> simp [Ex.rn]
theorem Ex.ok_good : ∀ {x : Ex}, x.ok → x.good
  | .leaf x, h => by
    rcases h with rfl | ⟨d, _, rfl⟩
    · rfl
    · rfl
  | .un x a, h => by
    obtain ⟨h1, h2⟩ := h
    refine ⟨?_, ok_good h2⟩
    rcases h1 with rfl | rfl <;> rfl
  | .bin x a b, h => by
    obtain ⟨h1, h2, h3⟩ := h
    refine ⟨?_, ok_good h2, ok_good h3⟩
    rcases h1 with rfl | rfl <;> rfl
theorem okEl_v {d : Nat} (h : d ≤ 5) : okEl (1, (d : Int)) = true := by
  simp only [okEl, inB, Bool.and_eq_true, decide_eq_true_eq]
  refine ⟨⟨by decide, by omega⟩, rfl⟩
theorem Ex.ok_els : ∀ {x : Ex}, x.ok → x.els.all okEl = true
  | .leaf x, h => by
    simp only [Ex.els, List.all_cons, List.all_nil, Bool.and_true]
    rcases h with rfl | ⟨d, hd, rfl⟩
    · rfl
    · exact okEl_v hd
  | .un x a, h => by
    obtain ⟨h1, h2⟩ := h
    simp only [Ex.els, List.all_cons, Bool.and_eq_true]
    refine ⟨?_, ok_els h2⟩
    rcases h1 with rfl | rfl <;> rfl
  | .bin x a b, h => by
    obtain ⟨h1, h2, h3⟩ := h
    simp only [Ex.els, List.all_cons, List.all_append, Bool.and_eq_true]
    refine ⟨?_, ok_els h2, ok_els h3⟩
    rcases h1 with rfl | rfl <;> rfl
theorem Ex.ok_wf {x : Ex} (h : x.ok) (hl : x.els.length ≤ 40) : wfE x.els = true := wfE_els (ok_good h) hl (ok_els h)
theorem Ex.els_rn : ∀ x : Ex, x.els.length ≤ x.rn.length
  | .leaf x => by simp [Ex.els, Ex.rn]
  | .un x a => by have h := a.els_rn; simp only [Ex.els, Ex.rn, List.length_cons] at *; omega
  | .bin x a b => by have h := a.els_rn; have h2 := b.els_rn; simp only [Ex.els, Ex.rn, List.length_cons, List.length_append] at *; omega
theorem Ex.deep_els : ∀ x : Ex, x.deep ≤ x.els.length
  | .leaf x => by simp [Ex.els, Ex.deep]
  | .un x a => by have h := a.deep_els; simp only [Ex.els, Ex.deep, List.length_cons] at *; omega
  | .bin x a b => by have h := a.deep_els; have h2 := b.deep_els; simp only [Ex.els, Ex.deep, List.length_cons, List.length_append] at *; omega
/-- Programs as trees. -/
inductive Pg where
  | nil
  | set (d : Nat) (x : Ex) (r : Pg)
  | loop (x : Ex) (b : Pg) (r : Pg)
def Pg.cmds : Pg → List Cmd
  | .nil => []
  | .set d x r => ⟨0, (d : Int), 0, x.els⟩ :: r.cmds
  | .loop x b r => ⟨1, 0, (b.cmds.length : Int), x.els⟩ :: (b.cmds ++ r.cmds)
/-- The text, with a semicolon ahead of each command. -/
def Pg.tl : Pg → List Nat
  | .nil => []
  | .set d x r => 59 :: (48 + d) :: 61 :: (x.rn ++ r.tl)
  | .loop x b r => 59 :: 119 :: (x.rn ++ 123 :: (b.tl.drop 1 ++ 125 :: r.tl))
def Pg.tx (p : Pg) : List Nat := p.tl.drop 1
def Pg.ok : Pg → Prop
  | .nil => True
  | .set d x r => d ≤ 5 ∧ x.ok ∧ x.els.length ≤ 40 ∧ r.ok
  | .loop x b r => x.ok ∧ x.els.length ≤ 40 ∧ b.ok ∧ r.ok
def Pg.sz : Pg → Nat
  | .nil => 0
  | .set _ _ r => r.sz + 1
  | .loop _ b r => b.sz + r.sz + 1
/-- How many elements its expressions have. -/
def Pg.tot : Pg → Nat
  | .nil => 0
  | .set _ x r => x.els.length + r.tot
  | .loop x b r => x.els.length + (b.tot + r.tot)
def Pg.dp : Pg → Nat
  | .nil => 1
  | .set _ _ r => r.dp
  | .loop _ b r => max (b.dp + 1) r.dp
theorem Pg.dp_pos : ∀ p : Pg, 1 ≤ p.dp
  | .nil => Nat.le_refl _
  | .set _ _ r => r.dp_pos
  | .loop _ b r => by have := r.dp_pos; simp only [Pg.dp]; omega
theorem Pg.cmds_len : ∀ p : Pg, p.cmds.length = p.sz
  | .nil => rfl
  | .set _ _ r => by simp [Pg.cmds, Pg.sz, r.cmds_len]
  | .loop _ b r => by simp [Pg.cmds, Pg.sz, r.cmds_len, b.cmds_len]
theorem Pg.tl_tx (p : Pg) : p = .nil ∨ p.tl = 59 :: p.tx := by cases p <;> simp [Pg.tx, Pg.tl]
theorem Pg.okc : ∀ {p : Pg}, p.ok → okC p.cmds = true
  | .nil, _ => okC_nil
  | .set d x r, h => by
    obtain ⟨h1, h2, h3, h4⟩ := h
    have hr := Pg.okc h4
    simp only [Pg.cmds]
    rw [okC_set (Ex.ok_wf h2 h3) rfl, hr]
    simp only [inB, Bool.and_true, beq_self_eq_true, decide_eq_true_eq]
    simp; omega
  | .loop x b r, h => by
    obtain ⟨h1, h2, h3, h4⟩ := h
    have hb := Pg.okc h3
    have hr := Pg.okc h4
    simp only [Pg.cmds]
    rw [okC_wh (Ex.ok_wf h1 h2) rfl]
    simp only [Int.toNat_natCast, List.take_left', List.drop_left', hb, hr, Bool.and_true, List.length_append]
    simp [inB]; omega
theorem Pg.isw {p : Pg} (h : p.ok) (h2 : p.sz ≤ 80) : isW p.cmds = true := by
  simp [Go.Proofs.YtadmbphefpfbmaaGreatDoor.isW, Pg.okc h, Pg.cmds_len, h2]
end Go.Proofs.YtadmbphefpfbmaaGreatDoor
