/- FixPackage and PlainPackage: the reference; PlainPackage of the program. -/
import Derived.Test.YtaadobggenbbdaaGreatDoorPkY
namespace Go.Proofs.YtaadobggenbbdaaGreatDoor
open Go.RowKit
set_option linter.unusedVariables false
set_option linter.unusedSimpArgs false
attribute [local go_sem ↓] Go.wp_at_zero Go.wp_at_succ
set_option maxHeartbeats 2000000 in
theorem l24Variables_any (w : World) (A : Option Addr) (n c : Nat) (cs : List Cmd) (hr : RdC w A n cs) (hv : isW cs = true) : Calls Tryz.prog 34 #[.slice A n c] w (RetV w (.bool (ozW cs))) := by
  have HV := Lib.hid (WhileVariables_any w A n c cs hr hv)
  clear hr hv
  go_enter Tryz.func34, Tryz.ntmps34
  go_upto_region 2 with (go_at_call 65
                         refine HV.out.mono ?_
                         rintro e w2 ⟨A2, n2, c2, xs, rfl, ho, hz, hn, hb⟩
                         have HO := Lib.hid ho; have HZ := Lib.hid hz; have HB := Lib.hid hb
                         clear ho hz hn hb)
  have HL : Hid (xs.length = n2) := Lib.hid (by have := HO.out.1; simpa using this)
  match xs, HO, HZ, HL with
  | [], HO, HZ, HL =>
    have hn2 : n2 = 0 := by have := HL.out; simpa using this.symm
    subst hn2
    have HE : Hid (ozW cs = true) := Lib.hid (by
      cases hb : ozW cs with
      | true => rfl
      | false => obtain ⟨z, hz, _⟩ := HZ.out.2 hb; simp at hz)
    go_wp2_with fail
    go_ret
    exact ⟨by rw [HE.out]; rfl, HB.out⟩
  | [z], HO, HZ, HL =>
    have hn2 : n2 = 1 := by have := HL.out; simpa using this.symm
    subst hn2
    obtain ⟨g, rfl, -, -, q0, -⟩ := own_get HO.out (k := 0) (u := .int .i64 z) rfl
    by_cases hz0 : z = 0
    · subst hz0
      have HE : Hid (ozW cs = true) := Lib.hid (by
        cases hb : ozW cs with
        | true => rfl
        | false => obtain ⟨z, hz, hn⟩ := HZ.out.2 hb; simp at hz; exact absurd hz hn)
      go_wp2_with fail
      go_ret
      exact ⟨by rw [HE.out]; rfl, HB.out⟩
    · have hzq : (z == 0) = false := by rw [beq_eq_false_iff_ne]; exact hz0
      have HE : Hid (ozW cs = false) := Lib.hid (by
        cases hb : ozW cs with
        | false => rfl
        | true => rcases HZ.out.1 hb with h | h
                  · simp at h
                  · simp at h; exact absurd h hz0)
      go_wp2_with fail
      go_ret
      exact ⟨by rw [HE.out]; rfl, HB.out⟩
  | z :: y :: r, HO, HZ, HL =>
    have HE : Hid (ozW cs = false) := Lib.hid (by
      cases hb : ozW cs with
      | false => rfl
      | true => rcases HZ.out.1 hb with h | h <;> simp at h)
    have hn2 : n2 = r.length + 2 := by have := HL.out; simpa using this.symm
    subst hn2
    have hq : ¬ ((r.length : Int) + 2 = 0) := by omega
    have hq1 : ((r.length : Int) + 2 == 0) = false := by rw [beq_eq_false_iff_ne]; omega
    have hq2 : ((r.length : Int) + 2 == 1) = false := by rw [beq_eq_false_iff_ne]; omega
    go_wp2_with fail
    go_ret
    exact ⟨by rw [HE.out]; rfl, HB.out⟩
set_option maxHeartbeats 2000000 in
theorem specFixPackage_any (w : World) (A : Option Addr) (n c : Nat) (cs : List Cmd) (hr : RdC w A n cs) (hn : n ≤ 1099511627776) :
    Calls Tryz.prog 20 #[.slice A n c] w (RetSI w 4 (bools (fixP cs).1) (fixP cs).2) := by
  have HV := l22IsX_any w A n c cs hr hn
  cases hW : isW cs with
  | false =>
    rw [hW] at HV
    rw [fix_1 hW]
    clear hr
    go_enter Tryz.func20, Tryz.ntmps20
    go_wp2_with (go_at_call 33; refine HV.mono ?_; rintro e w2 ⟨rfl, hb2⟩)
    go_ret2
    exact ⟨none, 0, 0, rfl, own_nil _ _ _, hb2⟩
  | true =>
    rw [hW] at HV
    replace HV := Lib.hid HV
    have hn80 : n ≤ 80 := by have h1 := hr.len; simp [isW] at hW; omega
    have HZ := Lib.hid (fun (w2 : World) (hb : Below w.heap.size w w2) => l24Variables_any w2 A n c cs (hr.below hb (Nat.le_refl _)) hW)
    have HF := Lib.hid (fun (w2 : World) (hb : Below w.heap.size w w2) => l24Fix_any w2 A n c cs (hr.below hb (Nat.le_refl _)) (by omega))
    cases hO : ozW cs with
    | false =>
      rw [fix_2 hW hO]
      have HO := Lib.hid hO
      clear hr hW hO
      go_enter Tryz.func20, Tryz.ntmps20
      go_wp2_with (first
        | (go_at_call 33; refine HV.out.mono ?_; rintro e w2 ⟨rfl, hb2⟩; have HB2 := Lib.hid hb2; clear hb2)
        | (go_at_call 34; refine (HZ.out w2 HB2.out).mono ?_; rw [HO.out]; rintro e w3 ⟨rfl, hb3⟩; have HB3 := Lib.hid (bqcP hb3 HB2.out); clear hb3))
      go_ret2
      exact ⟨none, 0, 0, rfl, own_nil _ _ _, HB3.out⟩
    | true =>
      have HE := Lib.hid (sfix_eq hW hO)
      have HO := Lib.hid hO
      clear hr hW hO
      go_enter Tryz.func20, Tryz.ntmps20
      go_wp2_with (first
        | (go_at_call 33; refine HV.out.mono ?_; rintro e w2 ⟨rfl, hb2⟩; have HB2 := Lib.hid hb2; clear hb2)
        | (go_at_call 34; refine (HZ.out w2 HB2.out).mono ?_; rw [HO.out]; rintro e w3 ⟨rfl, hb3⟩; have HB3 := Lib.hid (bqcP hb3 HB2.out); clear hb3)
        | (go_at_call 29
           refine (HF.out w3 HB3.out).mono ?_
           rw [HE.out]
           rintro e w4 ⟨A4, n4, c4, rfl, ho4, hb4⟩
           have HO4 := Lib.hid ho4
           have HB4 := Lib.hid (bqcP hb4 HB3.out)
           clear ho4 hb4))
      go_ret2
      exact ⟨A4, n4, c4, rfl, own_base HO4.out HB3.out.size, HB4.out⟩
end Go.Proofs.YtaadobggenbbdaaGreatDoor
