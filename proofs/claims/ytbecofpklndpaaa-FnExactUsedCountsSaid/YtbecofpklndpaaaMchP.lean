/- Machines: the program's usedCounts; UsedCounts of both. -/
import Derived.Test.YtbecofpklndpaaaMchO
namespace Go.Proofs.Ytbecofpklndpaaa
open Go.RowKit
set_option linter.unusedVariables false
set_option linter.unusedSimpArgs false
def RetII (w : World) (r : Int × Int) (e : Ending) (w' : World) : Prop := e = .returned (.tuple #[.int .i64 r.1, .int .i64 r.2]) ∧ Below w.heap.size w w'
def RetIII (w : World) (r : Int × Int × Int) (e : Ending) (w' : World) : Prop := e = .returned (.tuple #[.int .i64 r.1, .int .i64 r.2.1, .int .i64 r.2.2]) ∧ Below w.heap.size w w'
set_option maxHeartbeats 4000000 in
theorem usedCounts_any (w : World) (s t : Int) (A : Option Addr) (n c : Nat) (rs : List Rul) (hr : Rd w A (n * 3) (ints (flatR rs))) (hn : n ≤ 1099511627776) (hok : okM s t rs = true) : Calls Try.prog 113 #[mchV s t A n c] w (RetII w (used rs 1 1)) := by
  have hl : rs.length = n := by have := hr.1; simp [flatR_len] at this; omega
  have HL := Lib.hid hl; have HOK := Lib.hid hok
  clear hl hok
  go_enter Try.func113, Try.ntmps113
  go_wp2_with fail
  go_loopw [4, 5, 11] (fun u v i wr => ∃ (k : Nat) (p q : Int), k ≤ n ∧ i = .int .i64 k ∧ u = .int .i64 p ∧ v = .int .i64 q ∧ (1 ≤ p ∧ p ≤ 1000) ∧ (1 ≤ q ∧ q ≤ 1000) ∧ Hid (used rs 1 1 = used (rs.drop k) p q) ∧ Below w.heap.size w wr) (fun _ _ i _ => n - (intOf i).toNat)
  case atStart => exact ⟨0, 1, 1, Nat.zero_le _, rfl, rfl, rfl, by omega, by omega, Lib.hid rfl, below_new _ _⟩
  case round =>
    obtain ⟨k, p, q, hk, rfl, rfl, rfl, hp, hq, HU, hb⟩ := hrel
    obtain ⟨hp1, hp2⟩ := hp
    obtain ⟨hq1, hq2⟩ := hq
    by_cases hlt : k < n
    · obtain ⟨⟨a, b, d⟩, hx⟩ := get_some (xs := rs) (k := k) (by rw [HL.out]; omega)
      obtain ⟨⟨ba1, ba2⟩, bd1, bd2⟩ := okM_bd HOK.out hx
      simp only at ba1 ba2 bd1 bd2
      obtain ⟨b', off, rfl, hbs, r0, r1, r2⟩ := rdR hr hx
      replace r0 := (hb.cell (p := ⟨b', off + k * 3, none⟩) hbs).trans r0
      replace r1 := (hb.cell (p := ⟨b', off + k * 3 + 1, none⟩) hbs).trans r1
      replace r2 := (hb.cell (p := ⟨b', off + k * 3 + 2, none⟩) hbs).trans r2
      simp only at r0 r1 r2
      have HX := Lib.hid hx
      clear hx
      cases hR : isR ⟨a, b, d⟩ with
      | true =>
        have HR := Lib.hid hR
        clear hR
        go_wp2_with fail
        refine (isRule_any _ ⟨a, b, d⟩).mono ?_
        rw [HR.out]
        rintro e w2 ⟨rfl, hb2⟩
        obtain ⟨hb3, hx0, hs0⟩ := box_step hb2
        have p0 := blk_cell hx0 0 rfl; have p1 := blk_cell hx0 1 rfl; have p2 := blk_cell hx0 2 rfl
        have hw1 : IntKind.i64.wrap (d + 1) = d + 1 := IntWalk.i64_in _ (by omega)
        have hw2 : IntKind.i64.wrap (a + 1) = a + 1 := IntWalk.i64_in _ (by omega)
        go_wp2_with fail
        go_quiet (fail)
        go_wp2_with fail
        go_roundw
        case rel => exact ⟨k + 1, max p (d + 1), max q (a + 1), by omega, by go_num, by first | rfl | (congr 1; split <;> omega), by first | rfl | (congr 1; split <;> omega), by omega, by omega, Lib.hid (by have h := HU.out; rw [used_yes HX.out HR.out] at h; exact h), below_drewN (hb.trans (hb3.mono hb.size))⟩
        case measure => simp [intOf]; omega
      | false =>
        have HR := Lib.hid hR
        clear hR
        go_wp2_with fail
        refine (isRule_any _ ⟨a, b, d⟩).mono ?_
        rw [HR.out]
        rintro e w2 ⟨rfl, hb2⟩
        obtain ⟨hb3, hx0, hs0⟩ := box_step hb2
        clear hx0
        go_wp2_with fail
        go_roundw
        case rel => exact ⟨k + 1, _, _, by omega, by go_num, rfl, rfl, by omega, by omega, Lib.hid (by rw [HU.out, used_no HX.out HR.out]), hb.trans (hb3.mono hb.size)⟩
        case measure => simp [intOf]; omega
    · go_wp2_with fail
      go_ret2
      have h := HU.out
      rw [List.drop_of_length_le (by rw [HL.out]; omega)] at h
      exact ⟨by rw [h]; rfl, hb⟩
def usedNum (s t : Int) (rs : List Rul) : Int × Int × Int := if okM s t rs = true then ((used rs 1 1).1, (used rs 1 1).2, 0) else (0, 0, 1)
set_option maxHeartbeats 1000000 in
theorem specUsedCounts_any (w : World) (s t : Int) (A : Option Addr) (n c : Nat) (rs : List Rul) (hr : Rd w A (n * 3) (ints (flatR rs))) (hn : n ≤ 1099511627776) : Calls Try.prog 31 #[mchV s t A n c] w (RetIII w (usedNum s t rs)) := by
  have hbm : BM (w.alloc (.cells #[.int .i64 s, .int .i64 t, .slice A n c] 39)) w.heap.size s t A n c := box_new w _ _
  have HBM := Lib.hid hbm; clear hbm
  have hr1 := hr.alloc (.cells #[.int .i64 s, .int .i64 t, .slice A n c] 39)
  cases hO : okM s t rs with
  | false =>
    have HS : Hid (usedNum s t rs = (0, 0, 1)) := Lib.hid (by simp [usedNum, hO])
    have HO := Lib.hid hO; clear hO
    go_enter Try.func31, Try.ntmps31
    go_wp2_with (go_at_call 109; refine (l05Is_any _ _ s t A n c HBM.out rs hr1 hn).mono ?_; rw [HO.out]; rintro e w1 ⟨rfl, hb1⟩)
    go_ret3
    exact ⟨by rw [HS.out]; rfl, (box_step hb1).1⟩
  | true =>
    have HS : Hid (usedNum s t rs = ((used rs 1 1).1, (used rs 1 1).2, 0)) := Lib.hid (by simp [usedNum, hO])
    have HO := Lib.hid hO; clear hO
    go_enter Try.func31, Try.ntmps31
    go_wp2_with (first
      | (go_at_call 109; refine (l05Is_any _ _ s t A n c HBM.out rs hr1 hn).mono ?_; rw [HO.out]; rintro e w1 ⟨rfl, hb1⟩)
      | (go_at_call 110; refine (l30Used_any _ _ s t A n c (BM.bel HBM.out hb1) rs (hr1.below hb1 (Nat.le_refl _)) hn HO.out).mono ?_; rintro e w2 ⟨z, rfl, hb2⟩))
    go_ret3
    exact ⟨by rw [HS.out]; rfl, (box_step hb1).1.trans (hb2.mono (by have := (box_step hb1).1.size; omega))⟩
set_option maxHeartbeats 1000000 in
theorem implUsedCounts_any (w : World) (s t : Int) (A : Option Addr) (n c : Nat) (rs : List Rul) (hr : Rd w A (n * 3) (ints (flatR rs))) (hn : n ≤ 1099511627776) : Calls Try.prog 33 #[mchV s t A n c] w (RetIII w (usedNum s t rs)) := by
  have hr1 := hr.alloc (.cells #[.int .i64 s, .int .i64 t, .slice A n c] 39)
  cases hO : okM s t rs with
  | false =>
    have HS : Hid (usedNum s t rs = (0, 0, 1)) := Lib.hid (by simp [usedNum, hO])
    have HO := Lib.hid hO; clear hO
    go_enter Try.func33, Try.ntmps33
    go_wp2_with (go_at_call 112; refine (ValidMachine_any _ s t A n c rs hr1 hn).mono ?_; rw [HO.out]; rintro e w1 ⟨rfl, hb1⟩)
    go_ret3
    exact ⟨by rw [HS.out]; rfl, (box_step hb1).1⟩
  | true =>
    have HS : Hid (usedNum s t rs = ((used rs 1 1).1, (used rs 1 1).2, 0)) := Lib.hid (by simp [usedNum, hO])
    have HO := Lib.hid hO; clear hO
    go_enter Try.func33, Try.ntmps33
    go_wp2_with fail
    refine (ValidMachine_any _ s t A n c rs hr1 hn).mono ?_
    rw [HO.out]
    rintro e w1 ⟨rfl, hb1⟩
    obtain ⟨hb2, hx0, hs0⟩ := box_step hb1
    have p0 := blk_cell hx0 0 rfl; have p1 := blk_cell hx0 1 rfl; have p2 := blk_cell hx0 2 rfl
    go_wp2_with (go_at_call 113; refine (usedCounts_any _ s t A n c rs (hr.below hb2 (Nat.le_refl _)) hn HO.out).mono ?_; rintro e w2 ⟨rfl, hb3⟩)
    go_ret3
    exact ⟨by rw [HS.out]; rfl, hb2.trans (hb3.mono hb2.size)⟩
end Go.Proofs.Ytbecofpklndpaaa
