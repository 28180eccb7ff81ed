/- WindowsOf: what both sides answer. Written by mk_wo.py. -/
import Derived.Test.YtanicbbgneobpaaGreatWi
import Derived.Test.YtanicbbgneobpaaGreatGE
namespace Go.Proofs.YtanicbbgneobpaaGreat
open Go.RowKit
set_option linter.unusedVariables false
set_option linter.unusedSimpArgs false
def woP (s t : Int) (ps : List Rul) (st : Int) (ls rs : List Int) (n : Int) : List (List Int) × List (List Int) × Int :=
  if okM s t ps && okCf s t st ls rs then (if inB n 1 4 then (winsOf ls 1 n.toNat, winsOf rs 2 n.toNat, 0) else ([], [], 2)) else ([], [], 1)
theorem wo_bad {s t st n : Int} {ps : List Rul} {ls rs : List Int} (h : (okM s t ps && okCf s t st ls rs) = false) : woP s t ps st ls rs n = ([], [], 1) := by simp only [woP, h]; simp
theorem wo_n {s t st n : Int} {ps : List Rul} {ls rs : List Int} (h : (okM s t ps && okCf s t st ls rs) = true) (h2 : inB n 1 4 = false) : woP s t ps st ls rs n = ([], [], 2) := by simp only [woP, h, h2]; simp
theorem wo_ok {s t st n : Int} {ps : List Rul} {ls rs : List Int} (h : (okM s t ps && okCf s t st ls rs) = true) (h2 : inB n 1 4 = true) : woP s t ps st ls rs n = (winsOf ls 1 n.toNat, winsOf rs 2 n.toNat, 0) := by simp only [woP, h, h2]; simp
theorem wo_cl {s t st : Int} {ps : List Rul} {ls rs : List Int} (hm : okM s t ps = true) (h : okCf s t st ls rs = true) : ls.length ≤ 200 ∧ rs.length ≤ 200 ∧ (∀ x ∈ ls, SmI x) ∧ (∀ x ∈ rs, SmI x) := by
  obtain ⟨hs, _⟩ := okM_all hm
  simp only [okCf, Bool.and_eq_true] at h
  have key : ∀ xs : List Int, okS s xs = true → xs.length ≤ 200 ∧ ∀ x ∈ xs, SmI x := by
    intro xs hx
    have h1 : xs.length ≤ 200 := by
      by_cases hl : xs.length ≤ 200
      · exact hl
      · rw [okS_len hl] at hx; cases hx
    have h2 : allIn xs 0 (s - 1) = true := by
      cases ha : allIn xs 0 (s - 1) with
      | true => rfl
      | false => rw [okS_all ha] at hx; cases hx
    exact ⟨h1, fun x hxm => by have := allIn_true.1 h2 x hxm; unfold SmI; omega⟩
  exact ⟨(key ls h.1.2).1, (key rs h.2).1, (key ls h.1.2).2, (key rs h.2).2⟩
theorem wo_cl2 {s t st : Int} {ps : List Rul} {ls rs : List Int} (h : (okM s t ps && okCf s t st ls rs) = true) : ls.length ≤ 200 ∧ rs.length ≤ 200 ∧ (∀ x ∈ ls, SmI x) ∧ (∀ x ∈ rs, SmI x) := by
  rw [Bool.and_eq_true] at h; exact wo_cl h.1 h.2
theorem wl_drop (rs : List Int) (len k : Nat) : wl rs 2 len k = wl (rs.drop 1) 1 len k := by
  unfold wl cellsF
  congr 1
  apply List.map_congr_left
  intro i _
  apply List.map_congr_left
  intro j _
  rw [List.getD_eq_getElem?_getD, List.getD_eq_getElem?_getD, List.getElem?_drop, show 1 + (1 + i + j) = 2 + i + j by omega]
def WoP (w : World) (r : List (List Int) × List (List Int) × Int) (e : Ending) (w' : World) : Prop :=
  ∃ (A0 : Option Addr) (n0 c0 : Nat) (F0 : Nat → Prop) (A1 : Option Addr) (n1 c1 : Nat) (F1 : Nat → Prop), e = .returned (.tuple #[.slice A0 n0 c0, .slice A1 n1 c1, .int .i64 r.2.2]) ∧
    OwnP w' F0 A0 n0 c0 r.1 ∧ (∀ k, F0 k → w.heap.size ≤ k ∧ k < w'.heap.size) ∧ OwnP w' F1 A1 n1 c1 r.2.1 ∧ (∀ k, F1 k → w.heap.size ≤ k ∧ k < w'.heap.size) ∧ (∀ k, F0 k → F1 k → False) ∧ Below w.heap.size w w'
theorem woP_nil {w w' : World} {z : Int} (hb : Below w.heap.size w w') : WoP w ([], [], z) (.returned (.tuple #[.slice none 0 0, .slice none 0 0, .int .i64 z])) w' :=
  ⟨none, 0, 0, fun _ => False, none, 0, 0, fun _ => False, rfl, OwnP.nil _, by simp, OwnP.nil _, by simp, by simp, hb⟩
theorem woP_end {w w3 w5 w6 : World} {A5 A6 : Option Addr} {n5 c5 n6 c6 : Nat} {F5 F6 : Nat → Prop} {ls rs : List (List Int)} {z : Int} (hz : Below w.heap.size w w3) (ho5 : OwnP w6 F5 A5 n5 c5 ls) (hf5 : ∀ q, F5 q → w3.heap.size ≤ q ∧ q < w5.heap.size) (ho6 : OwnP w6 F6 A6 n6 c6 rs) (hf6 : ∀ q, F6 q → w5.heap.size ≤ q ∧ q < w6.heap.size) (hb : Below w3.heap.size w3 w6) (h56 : w5.heap.size ≤ w6.heap.size) (h35 : w3.heap.size ≤ w5.heap.size) :
    WoP w (ls, rs, z) (.returned (.tuple #[.slice A5 n5 c5, .slice A6 n6 c6, .int .i64 z])) w6 :=
  ⟨A5, n5, c5, F5, A6, n6, c6, F6, rfl, ho5, fun q hq => ⟨Nat.le_trans hz.size (hf5 q hq).1, Nat.lt_of_lt_of_le (hf5 q hq).2 h56⟩, ho6, fun q hq => ⟨Nat.le_trans (Nat.le_trans hz.size h35) (hf6 q hq).1, (hf6 q hq).2⟩, fun q h1 h2 => by have := (hf5 q h1).2; have := (hf6 q h2).1; omega, hz.trans (hb.mono hz.size)⟩
def BeyP (w : World) (xs : List Int) (e : Ending) (w' : World) : Prop := ∃ A' n' c', e = .returned (.slice A' n' c') ∧ Rd w A' n' (ints (xs.drop 1)) ∧ w = w'
theorem beyond_any (w : World) (A : Option Addr) (n c : Nat) (xs : List Int) (hr : Rd w A n (ints xs)) (hn : n ≤ 1099511627776) (hc : n ≤ c) :
    Calls Tryz.prog 47 #[.slice A n c] w (BeyP w xs) := by
  rcases Nat.eq_zero_or_pos n with hz | hp
  · subst hz
    have hcf := fun (w : World) => run_cutF Tryz.underlying25 Tryz.szI w A 0 c 0 0 .i64 (by rfl) (by omega)
    have hrt : Rd w (cutA A 0 c 1) (0 - 0) (ints (xs.drop 1)) := by have h := hr.cut 0 c (by omega) hc; have h1 := hr.1; simp at h1; subst h1; simpa using h
    generalize cutA A 0 c 1 = AT at *
    have HRT := Lib.hid hrt
    have hm0 : min (1 : Int) 0 = 0 := by decide
    clear hrt hr
    go_enter Tryz.func47, Tryz.ntmps47
    go_wp2_with fail
    go_ret
    exact ⟨AT, _, _, rfl, HRT.out, rfl⟩
  · have hcf := fun (w : World) => run_cutF Tryz.underlying25 Tryz.szI w A n c 1 1 .i64 (by rfl) (by omega)
    have hrt : Rd w (cutA A 1 c 1) (n - 1) (ints (xs.drop 1)) := by have h := hr.cut 1 c (by omega) hc; simpa using h
    generalize cutA A 1 c 1 = AT at *
    have HRT := Lib.hid hrt
    have hm1 : min (1 : Int) (n : Int) = 1 := by omega
    clear hrt hr
    go_enter Tryz.func47, Tryz.ntmps47
    go_wp2_with fail
    go_ret
    exact ⟨AT, _, _, rfl, HRT.out, rfl⟩
end Go.Proofs.YtanicbbgneobpaaGreat
