/- Two counters: one step of the program. Written by mk_cntk.py. -/
import Derived.Test.YtbecofpklndpaaaCntJ
import Derived.RegionTactic
namespace Go.Proofs.Ytbecofpklndpaaa
open Go.RowKit
set_option linter.unusedSimpArgs false
set_option linter.unusedVariables false
def StepPost (w : World) (g : Nat) (d : Cnt) (ok : Bool) (e : Ending) (w' : World) : Prop := e = .returned (.bool ok) ∧ BC w' g d ∧ w.grownBy w' (some g)
theorem grown_alloc' {w w' : World} {row : Option Nat} (h : w.grownBy w' row) (o : Obj) : w.grownBy (w'.alloc o) row :=
  ⟨h.os, h.tape, h.output, Nat.le_trans h.size (by simp), fun k hk hne => (Below.heap_alloc w' o k (Nat.lt_of_lt_of_le hk h.size)).trans (h.block k hk hne)⟩
theorem grown_set' {w w' : World} {g i : Nat} {u : Value} (h : w.grownBy w' (some g)) : w.grownBy (w'.setCell ⟨g, i, none⟩ u) (some g) :=
  ⟨h.os, h.tape, h.output, by simpa using h.size, fun k hk hne => (heap_setCell_other w' ⟨g, i, none⟩ k u (fun e => hne (by simp [e]))).trans (h.block k hk hne)⟩
theorem grown_drew' {w w' : World} {row : Option Nat} (h : w.grownBy w' row) : w.grownBy w'.drew row := ⟨h.os, h.tape, h.output, h.size, h.block⟩
theorem grown_drewN' {w w' : World} {row : Option Nat} {n : Nat} (h : w.grownBy w' row) : w.grownBy (w'.drewN n) row := ⟨h.os, h.tape, h.output, h.size, h.block⟩
theorem grown_refl' (w : World) (row : Option Nat) : w.grownBy w row := ⟨rfl, rfl, rfl, Nat.le_refl _, fun _ _ _ => rfl⟩
set_option maxHeartbeats 2000000 in
theorem step_1i (w : World) (A : Option Addr) (n c : Nat) (ps : List Ins) (hr : Rd w A (n * 4) (ints (flatI ps))) (hn : n ≤ 1099511627776) (kd rg th el : Int) (k : Nat) (hx : ps[k]? = some ⟨kd, rg, th, el⟩) (a b : Int) (ha1 : 0 ≤ a) (ha2 : a ≤ 1000000000000) (hb1 : 0 ≤ b) (hb2 : b ≤ 1000000000000)
    (g : Nat) (hbc : BC w g ⟨k, a, b⟩) (hr1 : (rg == 1) = true) (hk1 : (kd == 0) = true) :
    Calls Try.prog 120 #[.pointer (some ⟨g, 0, none⟩), .slice A n c] w (StepPost w g ⟨th, a, b + 1⟩ (decide (b + 1 ≤ 1000000000000))) := by
  have hkn : k < n := by have h1 := (List.getElem?_eq_some_iff.1 hx).1; have := hr.1; simp [flatI_len] at this; omega
  have hki : (0 : Int) ≤ (k : Int) := by omega
  have hki2 : (k : Int) < (n : Int) := by omega
  obtain ⟨b', off, rfl, hbs, q0, q1, q2, q3⟩ := rdI hr hx
  simp only at q0 q1 q2 q3
  have HBC := Lib.hid hbc
  have hgl : g < w.heap.size := hbc.lt
  obtain ⟨p0, p1, p2⟩ := hbc.cells
  obtain ⟨f0, f1, f2⟩ := hbc.free
  simp only at p0 p1 p2
  have e0 := World.new_ne w ⟨g, 0, none⟩ p0
  have e1 := World.new_ne w ⟨g, 1, none⟩ p1
  have e2 := World.new_ne w ⟨g, 2, none⟩ p2
  clear hx hr hbc
  go_enter Try.func120, Try.ntmps120
  go_wp2_with fail
  go_region
  all_goals
    go_wp2_with fail
    go_ret
    refine ⟨rfl, ?_, ?_⟩
    · exact ((HBC.out.set2 _).set0 _).alloc _
    · exact grown_drew' (grown_alloc' (grown_set' (grown_set' (grown_refl' _ _))) _)
set_option maxHeartbeats 2000000 in
theorem step_1z (w : World) (A : Option Addr) (n c : Nat) (ps : List Ins) (hr : Rd w A (n * 4) (ints (flatI ps))) (hn : n ≤ 1099511627776) (kd rg th el : Int) (k : Nat) (hx : ps[k]? = some ⟨kd, rg, th, el⟩) (a b : Int) (ha1 : 0 ≤ a) (ha2 : a ≤ 1000000000000) (hb1 : 0 ≤ b) (hb2 : b ≤ 1000000000000)
    (g : Nat) (hbc : BC w g ⟨k, a, b⟩) (hr1 : (rg == 1) = true) (hk1 : (kd == 0) = false) (hz : (decide (0 < b)) = false) :
    Calls Try.prog 120 #[.pointer (some ⟨g, 0, none⟩), .slice A n c] w (StepPost w g ⟨el, a, b⟩ true) := by
  have hkn : k < n := by have h1 := (List.getElem?_eq_some_iff.1 hx).1; have := hr.1; simp [flatI_len] at this; omega
  have hki : (0 : Int) ≤ (k : Int) := by omega
  have hki2 : (k : Int) < (n : Int) := by omega
  obtain ⟨b', off, rfl, hbs, q0, q1, q2, q3⟩ := rdI hr hx
  simp only at q0 q1 q2 q3
  have HBC := Lib.hid hbc
  have hgl : g < w.heap.size := hbc.lt
  obtain ⟨p0, p1, p2⟩ := hbc.cells
  obtain ⟨f0, f1, f2⟩ := hbc.free
  simp only at p0 p1 p2
  have e0 := World.new_ne w ⟨g, 0, none⟩ p0
  have e1 := World.new_ne w ⟨g, 1, none⟩ p1
  have e2 := World.new_ne w ⟨g, 2, none⟩ p2
  clear hx hr hbc
  go_enter Try.func120, Try.ntmps120
  go_wp2_with fail
  go_region
  all_goals
    go_wp2_with fail
    go_ret
    refine ⟨rfl, ?_, ?_⟩
    · exact (HBC.out.set0 _).alloc _
    · exact grown_drew' (grown_alloc' (grown_set' (grown_refl' _ _)) _)
set_option maxHeartbeats 2000000 in
theorem step_1d (w : World) (A : Option Addr) (n c : Nat) (ps : List Ins) (hr : Rd w A (n * 4) (ints (flatI ps))) (hn : n ≤ 1099511627776) (kd rg th el : Int) (k : Nat) (hx : ps[k]? = some ⟨kd, rg, th, el⟩) (a b : Int) (ha1 : 0 ≤ a) (ha2 : a ≤ 1000000000000) (hb1 : 0 ≤ b) (hb2 : b ≤ 1000000000000)
    (g : Nat) (hbc : BC w g ⟨k, a, b⟩) (hr1 : (rg == 1) = true) (hk1 : (kd == 0) = false) (hz : (decide (0 < b)) = true) :
    Calls Try.prog 120 #[.pointer (some ⟨g, 0, none⟩), .slice A n c] w (StepPost w g ⟨th, a, b - 1⟩ (decide (b - 1 ≤ 1000000000000))) := by
  have hkn : k < n := by have h1 := (List.getElem?_eq_some_iff.1 hx).1; have := hr.1; simp [flatI_len] at this; omega
  have hki : (0 : Int) ≤ (k : Int) := by omega
  have hki2 : (k : Int) < (n : Int) := by omega
  obtain ⟨b', off, rfl, hbs, q0, q1, q2, q3⟩ := rdI hr hx
  simp only at q0 q1 q2 q3
  have HBC := Lib.hid hbc
  have hgl : g < w.heap.size := hbc.lt
  obtain ⟨p0, p1, p2⟩ := hbc.cells
  obtain ⟨f0, f1, f2⟩ := hbc.free
  simp only at p0 p1 p2
  have e0 := World.new_ne w ⟨g, 0, none⟩ p0
  have e1 := World.new_ne w ⟨g, 1, none⟩ p1
  have e2 := World.new_ne w ⟨g, 2, none⟩ p2
  clear hx hr hbc
  go_enter Try.func120, Try.ntmps120
  go_wp2_with fail
  go_region
  all_goals
    go_wp2_with fail
    go_ret
    refine ⟨rfl, ?_, ?_⟩
    · exact ((HBC.out.set2 _).set0 _).alloc _
    · exact grown_drew' (grown_alloc' (grown_set' (grown_set' (grown_refl' _ _))) _)
set_option maxHeartbeats 2000000 in
theorem step_0i (w : World) (A : Option Addr) (n c : Nat) (ps : List Ins) (hr : Rd w A (n * 4) (ints (flatI ps))) (hn : n ≤ 1099511627776) (kd rg th el : Int) (k : Nat) (hx : ps[k]? = some ⟨kd, rg, th, el⟩) (a b : Int) (ha1 : 0 ≤ a) (ha2 : a ≤ 1000000000000) (hb1 : 0 ≤ b) (hb2 : b ≤ 1000000000000)
    (g : Nat) (hbc : BC w g ⟨k, a, b⟩) (hr1 : (rg == 1) = false) (hk1 : (kd == 0) = true) :
    Calls Try.prog 120 #[.pointer (some ⟨g, 0, none⟩), .slice A n c] w (StepPost w g ⟨th, a + 1, b⟩ (decide (a + 1 ≤ 1000000000000))) := by
  have hkn : k < n := by have h1 := (List.getElem?_eq_some_iff.1 hx).1; have := hr.1; simp [flatI_len] at this; omega
  have hki : (0 : Int) ≤ (k : Int) := by omega
  have hki2 : (k : Int) < (n : Int) := by omega
  obtain ⟨b', off, rfl, hbs, q0, q1, q2, q3⟩ := rdI hr hx
  simp only at q0 q1 q2 q3
  have HBC := Lib.hid hbc
  have hgl : g < w.heap.size := hbc.lt
  obtain ⟨p0, p1, p2⟩ := hbc.cells
  obtain ⟨f0, f1, f2⟩ := hbc.free
  simp only at p0 p1 p2
  have e0 := World.new_ne w ⟨g, 0, none⟩ p0
  have e1 := World.new_ne w ⟨g, 1, none⟩ p1
  have e2 := World.new_ne w ⟨g, 2, none⟩ p2
  clear hx hr hbc
  go_enter Try.func120, Try.ntmps120
  go_wp2_with fail
  go_region
  all_goals
    go_wp2_with fail
    go_ret
    refine ⟨rfl, ?_, ?_⟩
    · exact ((HBC.out.set1 _).set0 _).alloc _
    · exact grown_drew' (grown_alloc' (grown_set' (grown_set' (grown_refl' _ _))) _)
set_option maxHeartbeats 2000000 in
theorem step_0z (w : World) (A : Option Addr) (n c : Nat) (ps : List Ins) (hr : Rd w A (n * 4) (ints (flatI ps))) (hn : n ≤ 1099511627776) (kd rg th el : Int) (k : Nat) (hx : ps[k]? = some ⟨kd, rg, th, el⟩) (a b : Int) (ha1 : 0 ≤ a) (ha2 : a ≤ 1000000000000) (hb1 : 0 ≤ b) (hb2 : b ≤ 1000000000000)
    (g : Nat) (hbc : BC w g ⟨k, a, b⟩) (hr1 : (rg == 1) = false) (hk1 : (kd == 0) = false) (hz : (decide (0 < a)) = false) :
    Calls Try.prog 120 #[.pointer (some ⟨g, 0, none⟩), .slice A n c] w (StepPost w g ⟨el, a, b⟩ true) := by
  have hkn : k < n := by have h1 := (List.getElem?_eq_some_iff.1 hx).1; have := hr.1; simp [flatI_len] at this; omega
  have hki : (0 : Int) ≤ (k : Int) := by omega
  have hki2 : (k : Int) < (n : Int) := by omega
  obtain ⟨b', off, rfl, hbs, q0, q1, q2, q3⟩ := rdI hr hx
  simp only at q0 q1 q2 q3
  have HBC := Lib.hid hbc
  have hgl : g < w.heap.size := hbc.lt
  obtain ⟨p0, p1, p2⟩ := hbc.cells
  obtain ⟨f0, f1, f2⟩ := hbc.free
  simp only at p0 p1 p2
  have e0 := World.new_ne w ⟨g, 0, none⟩ p0
  have e1 := World.new_ne w ⟨g, 1, none⟩ p1
  have e2 := World.new_ne w ⟨g, 2, none⟩ p2
  clear hx hr hbc
  go_enter Try.func120, Try.ntmps120
  go_wp2_with fail
  go_region
  all_goals
    go_wp2_with fail
    go_ret
    refine ⟨rfl, ?_, ?_⟩
    · exact (HBC.out.set0 _).alloc _
    · exact grown_drew' (grown_alloc' (grown_set' (grown_refl' _ _)) _)
set_option maxHeartbeats 2000000 in
theorem step_0d (w : World) (A : Option Addr) (n c : Nat) (ps : List Ins) (hr : Rd w A (n * 4) (ints (flatI ps))) (hn : n ≤ 1099511627776) (kd rg th el : Int) (k : Nat) (hx : ps[k]? = some ⟨kd, rg, th, el⟩) (a b : Int) (ha1 : 0 ≤ a) (ha2 : a ≤ 1000000000000) (hb1 : 0 ≤ b) (hb2 : b ≤ 1000000000000)
    (g : Nat) (hbc : BC w g ⟨k, a, b⟩) (hr1 : (rg == 1) = false) (hk1 : (kd == 0) = false) (hz : (decide (0 < a)) = true) :
    Calls Try.prog 120 #[.pointer (some ⟨g, 0, none⟩), .slice A n c] w (StepPost w g ⟨th, a - 1, b⟩ (decide (a - 1 ≤ 1000000000000))) := by
  have hkn : k < n := by have h1 := (List.getElem?_eq_some_iff.1 hx).1; have := hr.1; simp [flatI_len] at this; omega
  have hki : (0 : Int) ≤ (k : Int) := by omega
  have hki2 : (k : Int) < (n : Int) := by omega
  obtain ⟨b', off, rfl, hbs, q0, q1, q2, q3⟩ := rdI hr hx
  simp only at q0 q1 q2 q3
  have HBC := Lib.hid hbc
  have hgl : g < w.heap.size := hbc.lt
  obtain ⟨p0, p1, p2⟩ := hbc.cells
  obtain ⟨f0, f1, f2⟩ := hbc.free
  simp only at p0 p1 p2
  have e0 := World.new_ne w ⟨g, 0, none⟩ p0
  have e1 := World.new_ne w ⟨g, 1, none⟩ p1
  have e2 := World.new_ne w ⟨g, 2, none⟩ p2
  clear hx hr hbc
  go_enter Try.func120, Try.ntmps120
  go_wp2_with fail
  go_region
  all_goals
    go_wp2_with fail
    go_ret
    refine ⟨rfl, ?_, ?_⟩
    · exact ((HBC.out.set1 _).set0 _).alloc _
    · exact grown_drew' (grown_alloc' (grown_set' (grown_set' (grown_refl' _ _))) _)

theorem step_any (w : World) (A : Option Addr) (n c : Nat) (ps : List Ins) (hr : Rd w A (n * 4) (ints (flatI ps))) (hn : n ≤ 1099511627776) (x : Ins) (k : Nat) (hx : ps[k]? = some x) (a b : Int) (ha : 0 ≤ a ∧ a ≤ 1000000000000) (hb : 0 ≤ b ∧ b ≤ 1000000000000)
    (g : Nat) (hbc : BC w g ⟨k, a, b⟩) :
    Calls Try.prog 120 #[.pointer (some ⟨g, 0, none⟩), .slice A n c] w (StepPost w g (stepC x ⟨k, a, b⟩).1 (stepC x ⟨k, a, b⟩).2) := by
  obtain ⟨kd, rg, th, el⟩ := x
  by_cases hR : rg = 1
  · have hr1 : (rg == 1) = true := by simpa using hR
    by_cases hK : kd = 0
    · have e : stepC ⟨kd, rg, th, el⟩ ⟨k, a, b⟩ = (⟨th, a, b + 1⟩, decide (b + 1 ≤ 1000000000000)) := by simp [stepC, hR, hK]
      rw [e]; exact step_1i w A n c ps hr hn kd rg th el k hx a b ha.1 ha.2 hb.1 hb.2 g hbc hr1 (by simpa using hK)
    · by_cases hZ : b = 0
      · have e : stepC ⟨kd, rg, th, el⟩ ⟨k, a, b⟩ = (⟨el, a, b⟩, true) := by simp [stepC, hR, hK, hZ]
        rw [e]; exact step_1z w A n c ps hr hn kd rg th el k hx a b ha.1 ha.2 hb.1 hb.2 g hbc hr1 (by simpa using hK) (by simp; omega)
      · have e : stepC ⟨kd, rg, th, el⟩ ⟨k, a, b⟩ = (⟨th, a, b - 1⟩, decide (b - 1 ≤ 1000000000000)) := by simp [stepC, hR, hK, hZ]
        rw [e]; exact step_1d w A n c ps hr hn kd rg th el k hx a b ha.1 ha.2 hb.1 hb.2 g hbc hr1 (by simpa using hK) (by simp; omega)
  · have hr1 : (rg == 1) = false := by simpa using hR
    by_cases hK : kd = 0
    · have e : stepC ⟨kd, rg, th, el⟩ ⟨k, a, b⟩ = (⟨th, a + 1, b⟩, decide (a + 1 ≤ 1000000000000)) := by simp [stepC, hR, hK]
      rw [e]; exact step_0i w A n c ps hr hn kd rg th el k hx a b ha.1 ha.2 hb.1 hb.2 g hbc hr1 (by simpa using hK)
    · by_cases hZ : a = 0
      · have e : stepC ⟨kd, rg, th, el⟩ ⟨k, a, b⟩ = (⟨el, a, b⟩, true) := by simp [stepC, hR, hK, hZ]
        rw [e]; exact step_0z w A n c ps hr hn kd rg th el k hx a b ha.1 ha.2 hb.1 hb.2 g hbc hr1 (by simpa using hK) (by simp; omega)
      · have e : stepC ⟨kd, rg, th, el⟩ ⟨k, a, b⟩ = (⟨th, a - 1, b⟩, decide (a - 1 ≤ 1000000000000)) := by simp [stepC, hR, hK, hZ]
        rw [e]; exact step_0d w A n c ps hr hn kd rg th el k hx a b ha.1 ha.2 hb.1 hb.2 g hbc hr1 (by simpa using hK) (by simp; omega)
end Go.Proofs.Ytbecofpklndpaaa
