/- Texts in one file: UvH, UvI, UvJ. -/
import Derived.Test.YtadmbphefpfbmaaGreatDoorUvK
import Derived.Test.YtadmbphefpfbmaaGreatDoorUvP
import Derived.Test.YtadmbphefpfbmaaGreatDoorUvB
/- The universal program: strings.NewReplacer; the lines of the program's text. -/
namespace Go.Proofs.YtadmbphefpfbmaaGreatDoor
open Go.RowKit
set_option linter.unusedVariables false
set_option linter.unusedSimpArgs false
attribute [local go_sem ↓] Go.wp_at_zero Go.wp_at_succ
theorem usV_one (v8 v10 v11 : ByteArray) : ∀ u ∈ usV v8 v10 v11, u.oneCell' = true := by
  intro u hu
  simp only [usV, List.mem_cons, List.not_mem_nil, or_false] at hu
  rcases hu with rfl | rfl | rfl | rfl | rfl | rfl <;> rfl
set_option maxRecDepth 100000 in
set_option maxHeartbeats 8000000 in
theorem newRep_any (w : World) (A : Option Addr) (c : Nat) (v8 v10 v11 : ByteArray) (hr : Rd w A 6 (usV v8 v10 v11)) :
    Calls Tryz.prog 34 #[.slice A 6 c] w fun e w' => ∃ p, e = .returned (ptr p) ∧ RpA v8 v10 v11 w' p ∧ w.heap.size ≤ p ∧ p < w'.heap.size ∧ Below w.heap.size w w' := by
  have HR := Lib.hid hr
  have HON := Lib.hid (World.ownsRow_nil w w.heap.size 9 1)
  have h62 : (6 : Int).tmod 2 = 0 := by decide
  clear hr
  go_enter Tryz.func34, Tryz.ntmps34
  go_wp2_with (at_builtin; go_must (refine wpList_appS eltStr rfl _ _ rfl w w.heap.size (.slice none 0 0) 0 [] (by rfl) HON.out A 6 c (usV v8 v10 v11) (by rfl) HR.out (usV_one _ _ _) (Nat.le_refl _) (by omega) ?_); intro A7 c7 w7 ho7 hb7
               have HO7 := Lib.hid ho7; have HB7 := Lib.hid hb7
               clear ho7 hb7)
  go_ret
  have h := HO7.out
  rw [List.nil_append] at h
  exact ⟨w7.heap.size, rfl, .inl ⟨A7, c7, box_new _ _ _, ownN_base (ownN_below h (below_new _ _) (Nat.le_refl _)) (Nat.zero_le _)⟩, HB7.out.size, by simp, bqcP (below_new _ _) HB7.out⟩
end Go.Proofs.YtadmbphefpfbmaaGreatDoor
/- The universal program: the lines of its text (no walk). Printed by mk_uvi.py. -/
namespace Go.Proofs.YtadmbphefpfbmaaGreatDoor
open Go.RowKit
set_option linter.unusedVariables false
set_option linter.unusedSimpArgs false
/-- A tag's text as numbers. -/
def tgL (k : Nat) : List Nat := (exT (tagTr k)).rn
theorem nm_tagB (k : Nat) : nm (tagB k) = tgL k := Ex.nm_bs (exT_ok _)
/-- The lines as the program has them, keys and all. -/
def partB : Nat → ByteArray
  | 0 => ⟨#[50, 61, 40, 110, 46, 50, 41]⟩
  | 1 => ⟨#[50, 61, 40, 48, 46, 50, 41]⟩
  | 2 => ⟨#[49, 61, 40, 104, 116, 116, 51, 46, 40, 116, 116, 116, 51, 46, 40, 104, 116, 51, 46, 49, 41, 41, 41]⟩
  | 3 => ⟨#[50, 61, 40, 40, 104, 116, 50, 46, 104, 50, 41, 46, 116, 116, 50, 41]⟩
  | 4 => ⟨#[50, 61, 40, 104, 104, 116, 50, 46, 116, 116, 50, 41]⟩
  | 5 => ⟨#[50, 61, 40, 116, 104, 116, 50, 46, 116, 116, 50, 41]⟩
  | 6 => ⟨#[50, 61, 40, 40, 104, 116, 50, 63, 104, 50, 41, 46, 116, 116, 50, 41]⟩
  | 7 => ⟨#[49, 61, 40, 116, 51, 46, 40, 40, 84, 56, 46, 110, 41, 46, 49, 41, 41]⟩
  | 8 => ⟨#[48, 61, 104, 50, 59, 50, 61, 116, 50]⟩
  | 9 => ⟨#[49, 61, 40, 104, 116, 51, 46, 40, 40, 84, 49, 48, 46, 51, 41, 46, 49, 41, 41]⟩
  | 10 => ⟨#[53, 61, 104, 50, 59, 50, 61, 116, 50, 59, 119, 53, 123, 53, 61, 110, 59, 49, 61, 40, 40, 84, 49, 49, 46, 116, 116, 116, 51, 41, 46, 40, 116, 51, 46, 49, 41, 41, 125]⟩
  | _ => ⟨#[53, 61, 116, 51, 59, 119, 53, 123, 53, 61, 110, 59, 49, 61, 40, 104, 116, 51, 46, 40, 40, 84, 49, 49, 46, 116, 116, 51, 41, 46, 49, 41, 41, 125]⟩
/-- The lines with the keys replaced. -/
def repB : Nat → ByteArray
  | 0 => ⟨#[50, 61, 40, 110, 46, 50, 41]⟩
  | 1 => ⟨#[50, 61, 40, 48, 46, 50, 41]⟩
  | 2 => ⟨#[49, 61, 40, 104, 116, 116, 51, 46, 40, 116, 116, 116, 51, 46, 40, 104, 116, 51, 46, 49, 41, 41, 41]⟩
  | 3 => ⟨#[50, 61, 40, 40, 104, 116, 50, 46, 104, 50, 41, 46, 116, 116, 50, 41]⟩
  | 4 => ⟨#[50, 61, 40, 104, 104, 116, 50, 46, 116, 116, 50, 41]⟩
  | 5 => ⟨#[50, 61, 40, 116, 104, 116, 50, 46, 116, 116, 50, 41]⟩
  | 6 => ⟨#[50, 61, 40, 40, 104, 116, 50, 63, 104, 50, 41, 46, 116, 116, 50, 41]⟩
  | 7 => ⟨#[49, 61, 40, 116, 51, 46, 40, 40, 40, 40, 40, 110, 46, 110, 41, 46, 110, 41, 46, 110, 41, 46, 110, 41, 46, 49, 41, 41]⟩
  | 8 => ⟨#[48, 61, 104, 50, 59, 50, 61, 116, 50]⟩
  | 9 => ⟨#[49, 61, 40, 104, 116, 51, 46, 40, 40, 40, 110, 46, 40, 110, 46, 40, 40, 110, 46, 110, 41, 46, 110, 41, 41, 41, 46, 51, 41, 46, 49, 41, 41]⟩
  | 10 => ⟨#[53, 61, 104, 50, 59, 50, 61, 116, 50, 59, 119, 53, 123, 53, 61, 110, 59, 49, 61, 40, 40, 40, 110, 46, 40, 40, 110, 46, 110, 41, 46, 40, 110, 46, 110, 41, 41, 41, 46, 116, 116, 116, 51, 41, 46, 40, 116, 51, 46, 49, 41, 41, 125]⟩
  | _ => ⟨#[53, 61, 116, 51, 59, 119, 53, 123, 53, 61, 110, 59, 49, 61, 40, 104, 116, 51, 46, 40, 40, 40, 110, 46, 40, 40, 110, 46, 110, 41, 46, 40, 110, 46, 110, 41, 41, 41, 46, 116, 116, 51, 41, 46, 49, 41, 41, 125]⟩
theorem rp_0 : Rp (tgL 8) (tgL 10) (tgL 11) (nm (partB 0)) (nm (repB 0)) := by
  have h : Rp (tgL 8) (tgL 10) (tgL 11) [50, 61, 40, 110, 46, 50, 41] (50 :: 61 :: 40 :: 110 :: 46 :: 50 :: 41 :: []) := (.lit (by decide) (.lit (by decide) (.lit (by decide) (.lit (by decide) (.lit (by decide) (.lit (by decide) (.lit (by decide) .nil)))))))
  have e1 : nm (partB 0) = [50, 61, 40, 110, 46, 50, 41] := by kernel_rfl
  have e2 : nm (repB 0) = (50 :: 61 :: 40 :: 110 :: 46 :: 50 :: 41 :: []) := by kernel_rfl
  rw [e1, e2]; exact h
theorem rp_1 : Rp (tgL 8) (tgL 10) (tgL 11) (nm (partB 1)) (nm (repB 1)) := by
  have h : Rp (tgL 8) (tgL 10) (tgL 11) [50, 61, 40, 48, 46, 50, 41] (50 :: 61 :: 40 :: 48 :: 46 :: 50 :: 41 :: []) := (.lit (by decide) (.lit (by decide) (.lit (by decide) (.lit (by decide) (.lit (by decide) (.lit (by decide) (.lit (by decide) .nil)))))))
  have e1 : nm (partB 1) = [50, 61, 40, 48, 46, 50, 41] := by kernel_rfl
  have e2 : nm (repB 1) = (50 :: 61 :: 40 :: 48 :: 46 :: 50 :: 41 :: []) := by kernel_rfl
  rw [e1, e2]; exact h
theorem rp_2 : Rp (tgL 8) (tgL 10) (tgL 11) (nm (partB 2)) (nm (repB 2)) := by
  have h : Rp (tgL 8) (tgL 10) (tgL 11) [49, 61, 40, 104, 116, 116, 51, 46, 40, 116, 116, 116, 51, 46, 40, 104, 116, 51, 46, 49, 41, 41, 41] (49 :: 61 :: 40 :: 104 :: 116 :: 116 :: 51 :: 46 :: 40 :: 116 :: 116 :: 116 :: 51 :: 46 :: 40 :: 104 :: 116 :: 51 :: 46 :: 49 :: 41 :: 41 :: 41 :: []) := (.lit (by decide) (.lit (by decide) (.lit (by decide) (.lit (by decide) (.lit (by decide) (.lit (by decide) (.lit (by decide) (.lit (by decide) (.lit (by decide) (.lit (by decide) (.lit (by decide) (.lit (by decide) (.lit (by decide) (.lit (by decide) (.lit (by decide) (.lit (by decide) (.lit (by decide) (.lit (by decide) (.lit (by decide) (.lit (by decide) (.lit (by decide) (.lit (by decide) (.lit (by decide) .nil)))))))))))))))))))))))
  have e1 : nm (partB 2) = [49, 61, 40, 104, 116, 116, 51, 46, 40, 116, 116, 116, 51, 46, 40, 104, 116, 51, 46, 49, 41, 41, 41] := by kernel_rfl
  have e2 : nm (repB 2) = (49 :: 61 :: 40 :: 104 :: 116 :: 116 :: 51 :: 46 :: 40 :: 116 :: 116 :: 116 :: 51 :: 46 :: 40 :: 104 :: 116 :: 51 :: 46 :: 49 :: 41 :: 41 :: 41 :: []) := by kernel_rfl
  rw [e1, e2]; exact h
theorem rp_3 : Rp (tgL 8) (tgL 10) (tgL 11) (nm (partB 3)) (nm (repB 3)) := by
  have h : Rp (tgL 8) (tgL 10) (tgL 11) [50, 61, 40, 40, 104, 116, 50, 46, 104, 50, 41, 46, 116, 116, 50, 41] (50 :: 61 :: 40 :: 40 :: 104 :: 116 :: 50 :: 46 :: 104 :: 50 :: 41 :: 46 :: 116 :: 116 :: 50 :: 41 :: []) := (.lit (by decide) (.lit (by decide) (.lit (by decide) (.lit (by decide) (.lit (by decide) (.lit (by decide) (.lit (by decide) (.lit (by decide) (.lit (by decide) (.lit (by decide) (.lit (by decide) (.lit (by decide) (.lit (by decide) (.lit (by decide) (.lit (by decide) (.lit (by decide) .nil))))))))))))))))
  have e1 : nm (partB 3) = [50, 61, 40, 40, 104, 116, 50, 46, 104, 50, 41, 46, 116, 116, 50, 41] := by kernel_rfl
  have e2 : nm (repB 3) = (50 :: 61 :: 40 :: 40 :: 104 :: 116 :: 50 :: 46 :: 104 :: 50 :: 41 :: 46 :: 116 :: 116 :: 50 :: 41 :: []) := by kernel_rfl
  rw [e1, e2]; exact h
theorem rp_4 : Rp (tgL 8) (tgL 10) (tgL 11) (nm (partB 4)) (nm (repB 4)) := by
  have h : Rp (tgL 8) (tgL 10) (tgL 11) [50, 61, 40, 104, 104, 116, 50, 46, 116, 116, 50, 41] (50 :: 61 :: 40 :: 104 :: 104 :: 116 :: 50 :: 46 :: 116 :: 116 :: 50 :: 41 :: []) := (.lit (by decide) (.lit (by decide) (.lit (by decide) (.lit (by decide) (.lit (by decide) (.lit (by decide) (.lit (by decide) (.lit (by decide) (.lit (by decide) (.lit (by decide) (.lit (by decide) (.lit (by decide) .nil))))))))))))
  have e1 : nm (partB 4) = [50, 61, 40, 104, 104, 116, 50, 46, 116, 116, 50, 41] := by kernel_rfl
  have e2 : nm (repB 4) = (50 :: 61 :: 40 :: 104 :: 104 :: 116 :: 50 :: 46 :: 116 :: 116 :: 50 :: 41 :: []) := by kernel_rfl
  rw [e1, e2]; exact h
theorem rp_5 : Rp (tgL 8) (tgL 10) (tgL 11) (nm (partB 5)) (nm (repB 5)) := by
  have h : Rp (tgL 8) (tgL 10) (tgL 11) [50, 61, 40, 116, 104, 116, 50, 46, 116, 116, 50, 41] (50 :: 61 :: 40 :: 116 :: 104 :: 116 :: 50 :: 46 :: 116 :: 116 :: 50 :: 41 :: []) := (.lit (by decide) (.lit (by decide) (.lit (by decide) (.lit (by decide) (.lit (by decide) (.lit (by decide) (.lit (by decide) (.lit (by decide) (.lit (by decide) (.lit (by decide) (.lit (by decide) (.lit (by decide) .nil))))))))))))
  have e1 : nm (partB 5) = [50, 61, 40, 116, 104, 116, 50, 46, 116, 116, 50, 41] := by kernel_rfl
  have e2 : nm (repB 5) = (50 :: 61 :: 40 :: 116 :: 104 :: 116 :: 50 :: 46 :: 116 :: 116 :: 50 :: 41 :: []) := by kernel_rfl
  rw [e1, e2]; exact h
theorem rp_6 : Rp (tgL 8) (tgL 10) (tgL 11) (nm (partB 6)) (nm (repB 6)) := by
  have h : Rp (tgL 8) (tgL 10) (tgL 11) [50, 61, 40, 40, 104, 116, 50, 63, 104, 50, 41, 46, 116, 116, 50, 41] (50 :: 61 :: 40 :: 40 :: 104 :: 116 :: 50 :: 63 :: 104 :: 50 :: 41 :: 46 :: 116 :: 116 :: 50 :: 41 :: []) := (.lit (by decide) (.lit (by decide) (.lit (by decide) (.lit (by decide) (.lit (by decide) (.lit (by decide) (.lit (by decide) (.lit (by decide) (.lit (by decide) (.lit (by decide) (.lit (by decide) (.lit (by decide) (.lit (by decide) (.lit (by decide) (.lit (by decide) (.lit (by decide) .nil))))))))))))))))
  have e1 : nm (partB 6) = [50, 61, 40, 40, 104, 116, 50, 63, 104, 50, 41, 46, 116, 116, 50, 41] := by kernel_rfl
  have e2 : nm (repB 6) = (50 :: 61 :: 40 :: 40 :: 104 :: 116 :: 50 :: 63 :: 104 :: 50 :: 41 :: 46 :: 116 :: 116 :: 50 :: 41 :: []) := by kernel_rfl
  rw [e1, e2]; exact h
theorem rp_7 : Rp (tgL 8) (tgL 10) (tgL 11) (nm (partB 7)) (nm (repB 7)) := by
  have h : Rp (tgL 8) (tgL 10) (tgL 11) [49, 61, 40, 116, 51, 46, 40, 40, 84, 56, 46, 110, 41, 46, 49, 41, 41] (49 :: 61 :: 40 :: 116 :: 51 :: 46 :: 40 :: 40 :: (tgL 8 ++ (46 :: 110 :: 41 :: 46 :: 49 :: 41 :: 41 :: []))) := (.lit (by decide) (.lit (by decide) (.lit (by decide) (.lit (by decide) (.lit (by decide) (.lit (by decide) (.lit (by decide) (.lit (by decide) (.k8 (.lit (by decide) (.lit (by decide) (.lit (by decide) (.lit (by decide) (.lit (by decide) (.lit (by decide) (.lit (by decide) .nil))))))))))))))))
  have e1 : nm (partB 7) = [49, 61, 40, 116, 51, 46, 40, 40, 84, 56, 46, 110, 41, 46, 49, 41, 41] := by kernel_rfl
  have e2 : nm (repB 7) = (49 :: 61 :: 40 :: 116 :: 51 :: 46 :: 40 :: 40 :: (tgL 8 ++ (46 :: 110 :: 41 :: 46 :: 49 :: 41 :: 41 :: []))) := by kernel_rfl
  rw [e1, e2]; exact h
theorem rp_8 : Rp (tgL 8) (tgL 10) (tgL 11) (nm (partB 8)) (nm (repB 8)) := by
  have h : Rp (tgL 8) (tgL 10) (tgL 11) [48, 61, 104, 50, 59, 50, 61, 116, 50] (48 :: 61 :: 104 :: 50 :: 59 :: 50 :: 61 :: 116 :: 50 :: []) := (.lit (by decide) (.lit (by decide) (.lit (by decide) (.lit (by decide) (.lit (by decide) (.lit (by decide) (.lit (by decide) (.lit (by decide) (.lit (by decide) .nil)))))))))
  have e1 : nm (partB 8) = [48, 61, 104, 50, 59, 50, 61, 116, 50] := by kernel_rfl
  have e2 : nm (repB 8) = (48 :: 61 :: 104 :: 50 :: 59 :: 50 :: 61 :: 116 :: 50 :: []) := by kernel_rfl
  rw [e1, e2]; exact h
theorem rp_9 : Rp (tgL 8) (tgL 10) (tgL 11) (nm (partB 9)) (nm (repB 9)) := by
  have h : Rp (tgL 8) (tgL 10) (tgL 11) [49, 61, 40, 104, 116, 51, 46, 40, 40, 84, 49, 48, 46, 51, 41, 46, 49, 41, 41] (49 :: 61 :: 40 :: 104 :: 116 :: 51 :: 46 :: 40 :: 40 :: (tgL 10 ++ (46 :: 51 :: 41 :: 46 :: 49 :: 41 :: 41 :: []))) := (.lit (by decide) (.lit (by decide) (.lit (by decide) (.lit (by decide) (.lit (by decide) (.lit (by decide) (.lit (by decide) (.lit (by decide) (.lit (by decide) (.k10 (.lit (by decide) (.lit (by decide) (.lit (by decide) (.lit (by decide) (.lit (by decide) (.lit (by decide) (.lit (by decide) .nil)))))))))))))))))
  have e1 : nm (partB 9) = [49, 61, 40, 104, 116, 51, 46, 40, 40, 84, 49, 48, 46, 51, 41, 46, 49, 41, 41] := by kernel_rfl
  have e2 : nm (repB 9) = (49 :: 61 :: 40 :: 104 :: 116 :: 51 :: 46 :: 40 :: 40 :: (tgL 10 ++ (46 :: 51 :: 41 :: 46 :: 49 :: 41 :: 41 :: []))) := by kernel_rfl
  rw [e1, e2]; exact h
theorem rp_10 : Rp (tgL 8) (tgL 10) (tgL 11) (nm (partB 10)) (nm (repB 10)) := by
  have h : Rp (tgL 8) (tgL 10) (tgL 11) [53, 61, 104, 50, 59, 50, 61, 116, 50, 59, 119, 53, 123, 53, 61, 110, 59, 49, 61, 40, 40, 84, 49, 49, 46, 116, 116, 116, 51, 41, 46, 40, 116, 51, 46, 49, 41, 41, 125] (53 :: 61 :: 104 :: 50 :: 59 :: 50 :: 61 :: 116 :: 50 :: 59 :: 119 :: 53 :: 123 :: 53 :: 61 :: 110 :: 59 :: 49 :: 61 :: 40 :: 40 :: (tgL 11 ++ (46 :: 116 :: 116 :: 116 :: 51 :: 41 :: 46 :: 40 :: 116 :: 51 :: 46 :: 49 :: 41 :: 41 :: 125 :: []))) := (.lit (by decide) (.lit (by decide) (.lit (by decide) (.lit (by decide) (.lit (by decide) (.lit (by decide) (.lit (by decide) (.lit (by decide) (.lit (by decide) (.lit (by decide) (.lit (by decide) (.lit (by decide) (.lit (by decide) (.lit (by decide) (.lit (by decide) (.lit (by decide) (.lit (by decide) (.lit (by decide) (.lit (by decide) (.lit (by decide) (.lit (by decide) (.k11 (.lit (by decide) (.lit (by decide) (.lit (by decide) (.lit (by decide) (.lit (by decide) (.lit (by decide) (.lit (by decide) (.lit (by decide) (.lit (by decide) (.lit (by decide) (.lit (by decide) (.lit (by decide) (.lit (by decide) (.lit (by decide) (.lit (by decide) .nil)))))))))))))))))))))))))))))))))))))
  have e1 : nm (partB 10) = [53, 61, 104, 50, 59, 50, 61, 116, 50, 59, 119, 53, 123, 53, 61, 110, 59, 49, 61, 40, 40, 84, 49, 49, 46, 116, 116, 116, 51, 41, 46, 40, 116, 51, 46, 49, 41, 41, 125] := by kernel_rfl
  have e2 : nm (repB 10) = (53 :: 61 :: 104 :: 50 :: 59 :: 50 :: 61 :: 116 :: 50 :: 59 :: 119 :: 53 :: 123 :: 53 :: 61 :: 110 :: 59 :: 49 :: 61 :: 40 :: 40 :: (tgL 11 ++ (46 :: 116 :: 116 :: 116 :: 51 :: 41 :: 46 :: 40 :: 116 :: 51 :: 46 :: 49 :: 41 :: 41 :: 125 :: []))) := by kernel_rfl
  rw [e1, e2]; exact h
theorem rp_11 : Rp (tgL 8) (tgL 10) (tgL 11) (nm (partB 11)) (nm (repB 11)) := by
  have h : Rp (tgL 8) (tgL 10) (tgL 11) [53, 61, 116, 51, 59, 119, 53, 123, 53, 61, 110, 59, 49, 61, 40, 104, 116, 51, 46, 40, 40, 84, 49, 49, 46, 116, 116, 51, 41, 46, 49, 41, 41, 125] (53 :: 61 :: 116 :: 51 :: 59 :: 119 :: 53 :: 123 :: 53 :: 61 :: 110 :: 59 :: 49 :: 61 :: 40 :: 104 :: 116 :: 51 :: 46 :: 40 :: 40 :: (tgL 11 ++ (46 :: 116 :: 116 :: 51 :: 41 :: 46 :: 49 :: 41 :: 41 :: 125 :: []))) := (.lit (by decide) (.lit (by decide) (.lit (by decide) (.lit (by decide) (.lit (by decide) (.lit (by decide) (.lit (by decide) (.lit (by decide) (.lit (by decide) (.lit (by decide) (.lit (by decide) (.lit (by decide) (.lit (by decide) (.lit (by decide) (.lit (by decide) (.lit (by decide) (.lit (by decide) (.lit (by decide) (.lit (by decide) (.lit (by decide) (.lit (by decide) (.k11 (.lit (by decide) (.lit (by decide) (.lit (by decide) (.lit (by decide) (.lit (by decide) (.lit (by decide) (.lit (by decide) (.lit (by decide) (.lit (by decide) (.lit (by decide) .nil))))))))))))))))))))))))))))))))
  have e1 : nm (partB 11) = [53, 61, 116, 51, 59, 119, 53, 123, 53, 61, 110, 59, 49, 61, 40, 104, 116, 51, 46, 40, 40, 84, 49, 49, 46, 116, 116, 51, 41, 46, 49, 41, 41, 125] := by kernel_rfl
  have e2 : nm (repB 11) = (53 :: 61 :: 116 :: 51 :: 59 :: 119 :: 53 :: 123 :: 53 :: 61 :: 110 :: 59 :: 49 :: 61 :: 40 :: 104 :: 116 :: 51 :: 46 :: 40 :: 40 :: (tgL 11 ++ (46 :: 116 :: 116 :: 51 :: 41 :: 46 :: 49 :: 41 :: 41 :: 125 :: []))) := by kernel_rfl
  rw [e1, e2]; exact h
theorem rp_all (k : Nat) (hk : k < 12) : Rp (nm (tagB 8)) (nm (tagB 10)) (nm (tagB 11)) (nm (partB k)) (nm (repB k)) := by
  rw [nm_tagB, nm_tagB, nm_tagB]
  match k, hk with
  | 0, _ => exact rp_0
  | 1, _ => exact rp_1
  | 2, _ => exact rp_2
  | 3, _ => exact rp_3
  | 4, _ => exact rp_4
  | 5, _ => exact rp_5
  | 6, _ => exact rp_6
  | 7, _ => exact rp_7
  | 8, _ => exact rp_8
  | 9, _ => exact rp_9
  | 10, _ => exact rp_10
  | 11, _ => exact rp_11
theorem part_size (k : Nat) : (partB k).size ≤ 1000 ∧ (repB k).size ≤ 1000 := by
  unfold partB repB
  split <;> decide
def hdB : ByteArray := ⟨#[49, 61, 104, 48, 59, 48, 61, 116, 48, 59, 119, 49, 123, 51, 61, 104, 49, 59, 49, 61, 116, 49]⟩
def l1B : ByteArray := ⟨#[59, 52, 61, 40, 104, 51, 63]⟩
def l2B : ByteArray := ⟨#[41, 59, 119, 52, 123, 52, 61, 110, 59]⟩
def l3B : ByteArray := ⟨#[125]⟩
/-- One line of the text. -/
def lineL (k : Nat) : List Nat := nm l1B ++ tgL k ++ nm l2B ++ nm (repB k) ++ nm l3B
def preL : Nat → List Nat
  | 0 => nm hdB
  | k + 1 => preL k ++ lineL k
set_option maxRecDepth 100000 in
theorem pre_end : preL 12 ++ nm l3B = nm txU := by kernel_rfl
theorem tgL_len (k : Nat) : (tgL k).length ≤ 1000 := by
  rw [← nm_tagB, nm_size]
  have h := (exT (tagTr k)).bs_size
  rw [exT_els, List.length_map, Tr.bits_len] at h
  have := tag_nodes k
  unfold tagB
  omega
theorem line_len (k : Nat) : (lineL k).length ≤ 3000 := by
  unfold lineL
  simp only [List.length_append]
  have h1 := tgL_len k
  have h2 := (part_size k).2
  rw [← nm_size] at h2
  have h3 : (nm l1B).length = 7 := by decide
  have h4 : (nm l2B).length = 9 := by decide
  have h5 : (nm l3B).length = 1 := by decide
  omega
theorem pre_len : ∀ k, (preL k).length ≤ 100 + 3000 * k
  | 0 => by decide
  | k + 1 => by
    have h1 := pre_len k
    have h2 := line_len k
    simp only [preL, List.length_append]
    omega
/-- The rows of the table. -/
def tabU : List Value := [.string (partB 0), .string (partB 1), .string (partB 2), .string (partB 3), .string (partB 4), .string (partB 5), .string (partB 6), .string (partB 7), .string (partB 8), .string (partB 9), .string (partB 10), .string (partB 11)]
theorem tabU_at {k : Nat} (h : k < 12) : tabU[k]? = some (.string (partB k)) := by
  match k, h with
  | 0, _ => rfl
  | 1, _ => rfl
  | 2, _ => rfl
  | 3, _ => rfl
  | 4, _ => rfl
  | 5, _ => rfl
  | 6, _ => rfl
  | 7, _ => rfl
  | 8, _ => rfl
  | 9, _ => rfl
  | 10, _ => rfl
  | 11, _ => rfl
end Go.Proofs.YtadmbphefpfbmaaGreatDoor
/- The universal program: UniversalWhile (program). -/
namespace Go.Proofs.YtadmbphefpfbmaaGreatDoor
open Go.RowKit
set_option linter.unusedVariables false
set_option linter.unusedSimpArgs false
attribute [local go_sem ↓] Go.wp_at_zero Go.wp_at_succ
theorem kpt_tab {w w' : World} {b : Nat} {cs : Array Value} (h : Lib.OthersKept 5 (some b) w w') (hb : w.heap[b]? = some (.cells cs 54 (0, 0))) : ∀ k ds T, w.heap[k]? = some (.cells ds T (0, 0)) → T ≠ 54 → T ≠ 5 → ¬ (k = b ∨ ∃ c fz, w.heap[k]? = some (.cells c 5 fz)) := by
  rintro k ds T hk h1 h2 (e | ⟨c, fz, e⟩)
  · exact blk_two hk hb h1 e
  · rw [hk] at e; injection e with e; injection e with e1 e2; exact h2 e2
theorem line_nm (k : Nat) : nm ((((l1B ++ tagB k) ++ l2B) ++ repB k) ++ l3B) = lineL k := by
  simp only [nm_app, nm_tagB]; rfl
theorem line_size (i : Nat) (h : i < 12) : (preL i).length + ((((l1B ++ tagB i) ++ l2B) ++ repB i) ++ l3B).size ≤ 1000000 := by
  rw [← nm_size, line_nm]
  have h1 := pre_len i
  have h2 := line_len i
  omega
theorem rpA_split {v8 v10 v11 : ByteArray} {w : World} {p : Nat} (h : RpA v8 v10 v11 w p) : RpF v8 v10 v11 w p ∨ RpB v8 v10 v11 w p := by
  rcases h with ⟨A, c, h1, h2⟩ | h
  · refine .inl ⟨A, c, h1, own_rd h2, fun b off s e => ?_⟩
    rcases h2.2 with ⟨e1, _⟩ | ⟨g, cap, cur, e1, _, hg, _⟩
    · simp only [Value.slice.injEq] at e1
      rw [e] at e1
      exact absurd e1.1 (by simp)
    · simp only [Value.slice.injEq] at e1
      rw [e] at e1
      have e2 : b = g := by have := e1.1; simp at this; exact this.1
      rw [e2]
      exact blk_two hg h1 (by decide)
  · exact .inr h
set_option maxRecDepth 100000 in
set_option maxHeartbeats 16000000 in
theorem implUniversal_any (w : World) : Calls Tryz.prog 16 #[] w (fun e w' => ∃ A c, e = .returned (.slice A pgU.sz c) ∧ WhQ w pgU A c w') := by
  obtain ⟨w1, hw1⟩ : ∃ w1, w1 = w.alloc (.cells #[.string ⟨#[50, 61, 40, 110, 46, 50, 41]⟩, .string ⟨#[50, 61, 40, 48, 46, 50, 41]⟩, .string ⟨#[49, 61, 40, 104, 116, 116, 51, 46, 40, 116, 116, 116, 51, 46, 40, 104, 116, 51, 46, 49, 41, 41, 41]⟩, .string ⟨#[50, 61, 40, 40, 104, 116, 50, 46, 104, 50, 41, 46, 116, 116, 50, 41]⟩, .string ⟨#[50, 61, 40, 104, 104, 116, 50, 46, 116, 116, 50, 41]⟩, .string ⟨#[50, 61, 40, 116, 104, 116, 50, 46, 116, 116, 50, 41]⟩, .string ⟨#[50, 61, 40, 40, 104, 116, 50, 63, 104, 50, 41, 46, 116, 116, 50, 41]⟩, .string ⟨#[49, 61, 40, 116, 51, 46, 40, 40, 84, 56, 46, 110, 41, 46, 49, 41, 41]⟩, .string ⟨#[48, 61, 104, 50, 59, 50, 61, 116, 50]⟩, .string ⟨#[49, 61, 40, 104, 116, 51, 46, 40, 40, 84, 49, 48, 46, 51, 41, 46, 49, 41, 41]⟩, .string ⟨#[53, 61, 104, 50, 59, 50, 61, 116, 50, 59, 119, 53, 123, 53, 61, 110, 59, 49, 61, 40, 40, 84, 49, 49, 46, 116, 116, 116, 51, 41, 46, 40, 116, 51, 46, 49, 41, 41, 125]⟩, .string ⟨#[53, 61, 116, 51, 59, 119, 53, 123, 53, 61, 110, 59, 49, 61, 40, 104, 116, 51, 46, 40, 40, 84, 49, 49, 46, 116, 116, 51, 41, 46, 49, 41, 41, 125]⟩] 9) := ⟨_, rfl⟩
  have HB1 : Hid (Below w.heap.size w w1) := Lib.hid (by rw [hw1]; exact below_new _ _)
  have HT1 : Hid (w1.ownsRow 0 9 1 (.slice (some ⟨w.heap.size, 0, none⟩) 12 12) 12 tabU) := Lib.hid (by rw [hw1]; exact ownN_base (own_lit w #[.string ⟨#[50, 61, 40, 110, 46, 50, 41]⟩, .string ⟨#[50, 61, 40, 48, 46, 50, 41]⟩, .string ⟨#[49, 61, 40, 104, 116, 116, 51, 46, 40, 116, 116, 116, 51, 46, 40, 104, 116, 51, 46, 49, 41, 41, 41]⟩, .string ⟨#[50, 61, 40, 40, 104, 116, 50, 46, 104, 50, 41, 46, 116, 116, 50, 41]⟩, .string ⟨#[50, 61, 40, 104, 104, 116, 50, 46, 116, 116, 50, 41]⟩, .string ⟨#[50, 61, 40, 116, 104, 116, 50, 46, 116, 116, 50, 41]⟩, .string ⟨#[50, 61, 40, 40, 104, 116, 50, 63, 104, 50, 41, 46, 116, 116, 50, 41]⟩, .string ⟨#[49, 61, 40, 116, 51, 46, 40, 40, 84, 56, 46, 110, 41, 46, 49, 41, 41]⟩, .string ⟨#[48, 61, 104, 50, 59, 50, 61, 116, 50]⟩, .string ⟨#[49, 61, 40, 104, 116, 51, 46, 40, 40, 84, 49, 48, 46, 51, 41, 46, 49, 41, 41]⟩, .string ⟨#[53, 61, 104, 50, 59, 50, 61, 116, 50, 59, 119, 53, 123, 53, 61, 110, 59, 49, 61, 40, 40, 84, 49, 49, 46, 116, 116, 116, 51, 41, 46, 40, 116, 51, 46, 49, 41, 41, 125]⟩, .string ⟨#[53, 61, 116, 51, 59, 119, 53, 123, 53, 61, 110, 59, 49, 61, 40, 104, 116, 51, 46, 40, 40, 84, 49, 49, 46, 116, 116, 51, 41, 46, 49, 41, 41, 125]⟩] 12 9 rfl (by omega)) (Nat.zero_le _))
  go_enter Tryz.func16, Tryz.ntmps16
  go_upto_region 2 with fail
  rw [← hw1]
  clear hw1
  go_upto_region 3 with (first
    | (go_at_call 35; refine (tagText_any w1 8 (by omega) 8 rfl).mono ?_; rintro e w2 ⟨rfl, hb2⟩
       have HB2 := Lib.hid (bqcP hb2 HB1.out); have HT2 := Lib.hid (ownN_below HT1.out hb2 (Nat.le_refl _))
       clear hb2)
    | (go_at_call 35; refine (tagText_any w2 10 (by omega) 10 rfl).mono ?_; rintro e w3 ⟨rfl, hb3⟩
       have HB3 := Lib.hid (bqcP hb3 HB2.out); have HT3 := Lib.hid (ownN_below HT2.out hb3 (Nat.le_refl _))
       clear hb3)
    | (go_at_call 35; refine (tagText_any w3 11 (by omega) 11 rfl).mono ?_; rintro e w4 ⟨rfl, hb4⟩
       have HB4 := Lib.hid (bqcP hb4 HB3.out); have HT4 := Lib.hid (ownN_below HT3.out hb4 (Nat.le_refl _))
       clear hb4)
    | (go_at_call 34; refine (newRep_any _ (some ⟨w4.heap.size, 0, none⟩) 6 (tagB 8) (tagB 10) (tagB 11) (own_rd (own_lit w4 (usV (tagB 8) (tagB 10) (tagB 11)).toArray 6 9 rfl (by omega)))).mono ?_
       rintro e w5 ⟨p, rfl, hp, hp1, hp2, hb5⟩
       have hb5' : Below w4.heap.size w4 w5 := (below_new w4 _).trans (hb5.mono (by simp))
       have HB5 := Lib.hid (bqcP hb5' HB4.out); have HT5 := Lib.hid (ownN_below HT4.out hb5' (Nat.le_refl _))
       have HP5 := Lib.hid hp
       have HPL : Hid (w.heap.size ≤ p ∧ p < w5.heap.size) := Lib.hid ⟨by have h1 := HB4.out.size; simp at hp1; omega, hp2⟩
       clear hp hp1 hp2 hb5 hb5'))
  as_aux_lemma =>
  obtain ⟨w6, hw6⟩ : ∃ w6, w6 = w5.alloc (.cells #[.pointer none, .slice none 0 0] 54) := ⟨_, rfl⟩
  obtain ⟨b, hb⟩ : ∃ b, b = w5.heap.size := ⟨_, rfl⟩
  have hk6 : Below w5.heap.size w5 w6 := by rw [hw6]; exact below_new _ _
  have HB6 : Hid (Below w.heap.size w w6) := Lib.hid (bqcP hk6 HB5.out)
  have HT6 := Lib.hid (ownN_below HT5.out hk6 (Nat.le_refl _))
  have HP6 : Hid (RpA (tagB 8) (tagB 10) (tagB 11) w6 p) := Lib.hid (rpA_kpt HP5.out (kpt_bel hk6) (fun _ _ _ _ _ h => h))
  have HI6 : Hid (IsB w6 w.heap.size b []) := Lib.hid (by rw [hw6, hb]; exact isB_new w5 _ HB5.out.size)
  have HLP : Hid (w.heap.size ≤ p) := Lib.hid HPL.out.1
  clear hk6
  go_upto_region 4 with fail
  rw [← hw6, ← hb]
  clear hw6 hb HB1 HT1 HB2 HT2 HB3 HT3 HB4 HT4 HB5 HT5 HP5 HPL
  as_aux_lemma =>
  go_upto_region 5 with (go_at_call 36
                         refine (bWrite_any w6 w.heap.size b [] hdB HI6.out (by decide) HB6.out.size).mono ?_
                         rintro e w7 ⟨rfl, hi, hbel, hok⟩
                         obtain ⟨cs, hbb⟩ := isB_blk HI6.out
                         have HT7 := Lib.hid (own_kpt HT6.out (kpt_ok hok) (fun k cs hk => kpt_tab hok hbb k cs _ hk (by decide) (by decide)))
                         have HP7 : Hid (RpA (tagB 8) (tagB 10) (tagB 11) w7 p) := Lib.hid (rpA_kpt HP6.out (kpt_ok hok) (fun k cs T hk hT => kpt_tab hok hbb k cs T hk (by rcases hT with rfl | rfl | rfl | rfl | rfl <;> decide) (by rcases hT with rfl | rfl | rfl | rfl | rfl <;> decide)))
                         have HI7 : Hid (IsB w7 w.heap.size b (preL 0)) := Lib.hid hi
                         have HB7 := Lib.hid (HB6.out.trans hbel)
                         clear hi hbel hok hbb)
  clear HI6 HT6 HP6 HB6
  as_aux_lemma =>
  go_wp2_with fail
  go_loopw [15] (fun u wr => ∃ i : Nat, i ≤ 12 ∧ u = .int .i64 (i : Int) ∧ Hid (IsB wr w.heap.size b (preL i)) ∧ Hid (RpA (tagB 8) (tagB 10) (tagB 11) wr p) ∧ Hid (wr.ownsRow 0 9 1 (.slice (some ⟨w.heap.size, 0, none⟩) 12 12) 12 tabU) ∧ Hid (Below w.heap.size w wr)) (fun v _ => 12 - (intOf v).toNat)
  case atStart => exact ⟨0, by omega, rfl, HI7, HP7, HT7, HB7⟩
  case round =>
    clear HI7 HP7 HT7 HB7
    obtain ⟨i, hi, rfl, HI, HP, HT, HB⟩ := hrel
    by_cases hlt : i < 12
    · have hii : (i : Int) < 12 := by omega
      have hi0 : (0 : Int) ≤ (i : Int) := by omega
      obtain ⟨g, eg, hg, hgs, q0, _⟩ := own_get HT.out (k := i) (u := .string (partB i)) (tabU_at hlt)
      injection eg with eg
      injection eg with eg
      subst eg
      clear hg hgs
      have HLT : Hid (i < 12) := Lib.hid hlt
      have HSZ := Lib.hid (line_size i hlt)
      have HRP := Lib.hid (rp_all i hlt)
      have ht9 : (tagB i).size ≤ 1000 := by rw [← nm_size, nm_tagB]; exact tgL_len i
      have hr9 : (repB i).size ≤ 1000 := (part_size i).2
      go_wp2_with (first
        | (go_at_call 36
           refine (bWrite_any w9 w.heap.size b (preL i) ((((l1B ++ tagB i) ++ l2B) ++ repB i) ++ l3B) HI9.out HSZ.out HB9.out.size).mono ?_
           rintro e w10 ⟨rfl, hi, hbel, hok⟩
           obtain ⟨cs, hbb⟩ := isB_blk HI9.out
           have HT10 := Lib.hid (own_kpt HT9.out (kpt_ok hok) (fun k cs hk => kpt_tab hok hbb k cs _ hk (by decide) (by decide)))
           have HP10 : Hid (RpA (tagB 8) (tagB 10) (tagB 11) w10 p) := Lib.hid (rpA_kpt HP9.out (kpt_ok hok) (fun k cs T hk hT => kpt_tab hok hbb k cs T hk (by rcases hT with rfl | rfl | rfl | rfl | rfl <;> decide) (by rcases hT with rfl | rfl | rfl | rfl | rfl <;> decide)))
           rw [line_nm] at hi
           have HI10 : Hid (IsB w10 w.heap.size b (preL (i + 1))) := Lib.hid hi
           have HB10 := Lib.hid (HB9.out.trans hbel)
           clear hi hbel hok hbb)
        | (go_at_call 37
           refine (rpReplace_any (tagB 8) (tagB 10) (tagB 11) w8 p (partB i) (repB i) (rpA_split HP8.out) HRP.out (by have := (part_size i).1; omega) (by have := (part_size i).2; omega)).mono ?_
           rintro e w9 ⟨rfl, hp, hc⟩
           obtain ⟨ds, hpp⟩ := rpA_blk HP8.out
           have HP9 : Hid (RpA (tagB 8) (tagB 10) (tagB 11) w9 p) := Lib.hid (.inr hp)
           have HT9 := Lib.hid (own_kpt HT8.out (kpt_ch hc) (fun k cs hk => blk_two hk hpp (by decide)))
           have HI9 : Hid (IsB w9 w.heap.size b (preL i)) := Lib.hid (isB_kpt HI8.out (kpt_ch hc) (fun k cs T fz hk hT => blk_two hk hpp (by rcases hT with rfl | rfl <;> decide)))
           have HB9 := Lib.hid (below_ch HB8.out hc (fun q e => by have e1 : q = p := e; have := HLP.out; omega) HB8.out.size)
           clear hp hc hpp)
        | (go_at_call 35
           refine (tagText_any wr i (by omega) (i : Int) rfl).mono ?_
           rintro e w8 ⟨rfl, hb8⟩
           have HB8 := Lib.hid (bqcP hb8 HB.out)
           have HT8 := Lib.hid (ownN_below HT.out hb8 (Nat.le_refl _))
           have HP8 : Hid (RpA (tagB 8) (tagB 10) (tagB 11) w8 p) := Lib.hid (rpA_kpt HP.out (kpt_bel hb8) (fun _ _ _ _ _ h => h))
           have HI8 : Hid (IsB w8 w.heap.size b (preL i)) := Lib.hid (isB_kpt HI.out (kpt_bel hb8) (fun _ _ _ _ _ _ h => h))
           clear hb8))
      go_roundw
      case rel => exact ⟨i + 1, by have := HLT.out; omega, by go_num, HI10, HP10, HT10, HB10⟩
      case measure => have := HLT.out; simp [intOf]; omega
    · obtain rfl : i = 12 := by omega
      as_aux_lemma =>
      go_upto_region 11 with (go_at_call 36
                              refine (bWrite_any wr w.heap.size b (preL 12) l3B HI.out (by have := pre_len 12; have h : l3B.size = 1 := by decide
                                                                                           omega) HB.out.size).mono ?_
                              rintro e w8 ⟨rfl, hi, hbel, hok⟩
                              rw [pre_end] at hi
                              have HI8 := Lib.hid hi
                              have HB8 := Lib.hid (HB.out.trans hbel)
                              clear hi hbel hok)
      clear HI HP HT HB
      go_wp2_with (first
        | (go_at_call 32
           refine (whileOfY_any pgU txU ok_univ w9).mono ?_
           rintro e w10 ⟨A, c, rfl, hq⟩
           have HQ := Lib.hid hq
           clear hq)
        | (go_at_call 38
           refine (bString_any w8 w.heap.size b txU HI8.out HB8.out.size).mono ?_
           rintro e w9 ⟨rfl, hb9⟩
           have HB9 := Lib.hid (HB8.out.trans hb9)
           clear hb9))
      go_ret
      obtain ⟨⟨us, h1, h2⟩, h3⟩ := HQ.out
      exact ⟨A, c, rfl, ⟨us, ownN_base h1 HB9.out.size, h2⟩, bqcP h3 HB9.out⟩
end Go.Proofs.YtadmbphefpfbmaaGreatDoor
