/- Two counters: the reference's tests and its step. -/
import Derived.Test.YtbecofpklndpaaaCntM
namespace Go.Proofs.Ytbecofpklndpaaa
open Go.RowKit
set_option linter.unusedVariables false
set_option linter.unusedSimpArgs false

set_option maxHeartbeats 400000 in
theorem l07Register_any (w : World) (x : Int) : Calls Try.prog 238 #[.int .i64 x] w fun e w' => e = .returned (.bool (inB x 0 23)) ∧ w = w' := by
  go_enter Try.func238, Try.ntmps238
  go_wp2_with (go_at_call 154; refine (l00In_any _ _ _ _).mono ?_; rintro e w' ⟨rfl, rfl⟩)
  go_ret
  exact ⟨rfl, rfl⟩

set_option maxHeartbeats 4000000 in
theorem l07Is_any (w : World) (A : Option Addr) (n c : Nat) (ps : List Ins) (hr : Rd w A (n * 4) (ints (flatI ps))) (hn : n ≤ 1099511627776) : Calls Try.prog 199 #[.slice A n c] w (RetV w (.bool (okProg ps))) := by
  have HL : Hid (ps.length = n) := Lib.hid (by have := hr.1; simp [flatI_len] at this; omega)
  go_enter Try.func199, Try.ntmps199
  go_wp2_with fail
  go_loopw [4] (fun i wr => ∃ k : Nat, k ≤ n ∧ i = .int .i64 k ∧ Hid ((ps.take k).all (okIns n) = true) ∧ Below w.heap.size w wr) (fun i _ => n - (intOf i).toNat)
  case atStart => exact ⟨0, Nat.zero_le _, rfl, Lib.hid (by simp), Below.refl _ _⟩
  case round =>
    obtain ⟨k, hk, rfl, HA, hb⟩ := hrel
    by_cases hlt : k < n
    · obtain ⟨⟨kd, rg, th, el⟩, hx⟩ := get_some (xs := ps) (k := k) (by rw [HL.out]; exact hlt)
      obtain ⟨b, off, rfl, hbs, q0, q1, q2, q3⟩ := rdI hr hx
      replace q0 := (hb.cell (p := ⟨b, off + k * 4, none⟩) hbs).trans q0
      replace q1 := (hb.cell (p := ⟨b, off + k * 4 + 1, none⟩) hbs).trans q1
      replace q2 := (hb.cell (p := ⟨b, off + k * 4 + 2, none⟩) hbs).trans q2
      replace q3 := (hb.cell (p := ⟨b, off + k * 4 + 3, none⟩) hbs).trans q3
      have HX := Lib.hid hx
      clear hx
      simp only at q0 q1 q2 q3
      cases hok : okIns n ⟨kd, rg, th, el⟩ with
      | true =>
        have HO := Lib.hid hok
        obtain ⟨h1, h2, h3⟩ := okIns_true hok
        clear hok
        have HW : Hid (∀ w', Below wr.heap.size wr w' → Below w.heap.size w w') := Lib.hid fun w' h => hb.trans (h.mono hb.size)
        rcases h3 with ⟨rfl, rfl⟩ | ⟨rfl, h3⟩
        all_goals
          (try have h0n : inB 0 0 n = true := inB_true.2 ⟨by omega, by omega⟩)
          go_wp2_with (first
            | (go_at_call 238; refine (l07Register_any _ _).mono ?_; rintro e w' ⟨rfl, rfl⟩)
            | (go_at_call 154; refine (l00In_any _ _ _ _).mono ?_; rintro e w' ⟨rfl, rfl⟩))
          go_roundw
          case rel => exact ⟨k + 1, by omega, by go_num, Lib.hid (all_step HA.out HX.out HO.out), HW.out _ (below_new _ _)⟩
          case measure => simp [intOf]; omega
      | false =>
        have HO : Hid (okProg ps = false) := Lib.hid (by rw [okProg, HL.out, all_out HX.out hok]; rfl)
        have HW : Hid (∀ w', Below wr.heap.size wr w' → Below w.heap.size w w') := Lib.hid fun w' h => hb.trans (h.mono hb.size)
        rcases okIns_false hok with h1 | ⟨h1, h2⟩ | ⟨h1, h2, ⟨rfl, h3⟩ | ⟨rfl, h3⟩ | ⟨h3, h4⟩⟩
        all_goals
          clear hok
          (try have h5 : (el != 0) = true := by simpa using h3)
          (try have h6 : (kd != 0) = true := by simpa using h3)
          (try have h7 : (kd != 1) = true := by simpa using h4)
          go_wp2_with (first
            | (go_at_call 238; refine (l07Register_any _ _).mono ?_; rintro e w' ⟨rfl, rfl⟩)
            | (go_at_call 154; refine (l00In_any _ _ _ _).mono ?_; rintro e w' ⟨rfl, rfl⟩))
          go_ret
          exact ⟨by rw [HO.out]; rfl, HW.out _ (below_new _ _)⟩
    · obtain rfl : k = n := by omega
      have HO : Hid ((ps.all (okIns k)) = true) := Lib.hid (by have h := HA.out; rwa [List.take_of_length_le (by rw [HL.out]; omega)] at h)
      by_cases h4 : k ≤ 400
      · have hd : decide ((k : Int) ≤ 400) = true := by simp; omega
        go_wp2_with fail
        go_ret
        exact ⟨by rw [okProg, HL.out, HO.out]; simp; omega, hb⟩
      · have hd : decide ((k : Int) ≤ 400) = false := by simp; omega
        go_wp2_with fail
        go_ret
        exact ⟨by rw [okProg, HL.out, HO.out]; simp; omega, hb⟩

set_option maxHeartbeats 1000000 in
theorem l08Two_any (w : World) (A : Option Addr) (n c : Nat) (ps : List Ins) (hr : Rd w A (n * 4) (ints (flatI ps))) (hn : n ≤ 1099511627776) : Calls Try.prog 114 #[.slice A n c] w (RetV w (.bool (twoC ps))) := by
  have HL : Hid (ps.length = n) := Lib.hid (by have := hr.1; simp [flatI_len] at this; omega)
  cases hP : okProg ps with
  | false =>
    have HO : Hid (twoC ps = false) := Lib.hid (by rw [twoC, hP]; rfl)
    have HP := Lib.hid hP; clear hP
    go_enter Try.func114, Try.ntmps114
    go_wp2_with (go_at_call 199; refine (l07Is_any _ _ _ _ _ hr hn).mono ?_; rw [HP.out]; rintro e w1 ⟨rfl, hb1⟩)
    go_ret
    exact ⟨by rw [HO.out]; rfl, hb1⟩
  | true =>
    have HO : Hid (twoC ps = ps.all lowReg) := Lib.hid (by rw [twoC, hP]; rfl)
    have HP := Lib.hid hP; clear hP
    go_enter Try.func114, Try.ntmps114
    go_wp2_with (go_at_call 199; refine (l07Is_any _ _ _ _ _ hr hn).mono ?_; rw [HP.out]; rintro e w1 ⟨rfl, hb1⟩)
    go_loop [3] (fun i => ∃ k : Nat, k ≤ n ∧ i = .int .i64 k ∧ Hid ((ps.take k).all lowReg = true)) (fun i => n - (intOf i).toNat)
    case atStart => exact ⟨0, Nat.zero_le _, rfl, Lib.hid (by simp)⟩
    case round =>
      obtain ⟨k, hk, rfl, HA⟩ := hrel
      by_cases hlt : k < n
      · obtain ⟨⟨kd, rg, th, el⟩, hx⟩ := get_some (xs := ps) (k := k) (by rw [HL.out]; exact hlt)
        obtain ⟨b, off, rfl, hbs, q0, q1, q2, q3⟩ := rdI hr hx
        replace q1 := (hb1.cell (p := ⟨b, off + k * 4 + 1, none⟩) hbs).trans q1
        have HX := Lib.hid hx
        clear hx q0 q2 q3
        simp only at q1
        by_cases hg : rg ≤ 1
        · have HG : Hid (lowReg ⟨kd, rg, th, el⟩ = true) := Lib.hid (by simpa [lowReg] using hg)
          have hd : decide (1 < rg) = false := by simp; omega
          go_wp2_with fail
          go_round
          case rel => exact ⟨k + 1, by omega, by go_num, Lib.hid (all_step HA.out HX.out HG.out)⟩
          case measure => simp [intOf]; omega
        · have HG : Hid (lowReg ⟨kd, rg, th, el⟩ = false) := Lib.hid (by simpa [lowReg] using hg)
          have hd : decide (1 < rg) = true := by simp; omega
          go_wp2_with fail
          go_ret
          exact ⟨by rw [HO.out, all_out HX.out HG.out]; rfl, hb1⟩
      · go_wp2_with fail
        go_ret
        have h := HA.out
        rw [List.take_of_length_le (by rw [HL.out]; omega)] at h
        exact ⟨by rw [HO.out, h]; rfl, hb1⟩

/-- A pointer to counters. -/
def PC (w : World) (g : Nat) (c : Cnt) : Prop := w.cell? ⟨g, 0, none⟩ = some (.int .i64 c.at_) ∧ w.cell? ⟨g, 1, none⟩ = some (.int .i64 c.a) ∧ w.cell? ⟨g, 2, none⟩ = some (.int .i64 c.b)

theorem goodC_cases (n at_ a b : Int) : (inB at_ 0 n = false ∧ goodC n ⟨at_, a, b⟩ = false) ∨ (inB at_ 0 n = true ∧ inB a 0 1000000000000 = false ∧ goodC n ⟨at_, a, b⟩ = false) ∨ (inB at_ 0 n = true ∧ inB a 0 1000000000000 = true ∧ goodC n ⟨at_, a, b⟩ = inB b 0 1000000000000) := by
  unfold goodC
  cases inB at_ 0 n <;> cases inB a 0 1000000000000 <;> simp
set_option maxHeartbeats 1000000 in
theorem l08Good_any (w : World) (A : Option Addr) (n c : Nat) (_hn : n ≤ 1099511627776) (g : Nat) (x : Cnt) (hp : PC w g x) : Calls Try.prog 115 #[.slice A n c, .pointer (some ⟨g, 0, none⟩)] w fun e w' => e = .returned (.bool (goodC n x)) ∧ w = w' := by
  obtain ⟨q0, q1, q2⟩ := hp
  obtain ⟨at_, a, b⟩ := x
  simp only at q0 q1 q2
  rcases goodC_cases n at_ a b with ⟨h1, hG⟩ | ⟨h1, h2, hG⟩ | ⟨h1, h2, hG⟩
  all_goals
    have HG := Lib.hid hG
    clear hG
    go_enter Try.func115, Try.ntmps115
    go_wp2_with (go_at_call 154; refine (l00In_any _ _ _ _).mono ?_; rintro e w' ⟨rfl, rfl⟩)
    go_ret
    exact ⟨by rw [HG.out]; rfl, rfl⟩

abbrev cntV (c : Cnt) : Value := .agg #[.int .i64 c.at_, .int .i64 c.a, .int .i64 c.b]
/-- Counters and a bool. -/
def RetCB (w : World) (c : Cnt) (ok : Bool) (e : Ending) (w' : World) : Prop := e = .returned (.tuple #[cntV c, .bool ok]) ∧ Below w.heap.size w w'
set_option maxHeartbeats 2000000 in
theorem l08Step_any (w : World) (A : Option Addr) (n c : Nat) (ps : List Ins) (hr : Rd w A (n * 4) (ints (flatI ps))) (hn : n ≤ 1099511627776) (x : Ins) (k : Nat) (hx : ps[k]? = some x) (a b : Int) (ha : 0 ≤ a ∧ a ≤ 1000000000000) (hb : 0 ≤ b ∧ b ≤ 1000000000000) :
    Calls Try.prog 116 #[.slice A n c, cntV ⟨k, a, b⟩] w (RetCB w (stepC x ⟨k, a, b⟩).1 (stepC x ⟨k, a, b⟩).2) := by
  have hkn : k < n := by have h1 := (List.getElem?_eq_some_iff.1 hx).1; have := hr.1; simp [flatI_len] at this; omega
  obtain ⟨kd, rg, th, el⟩ := x
  obtain ⟨b', off, rfl, hbs, q0, q1, q2, q3⟩ := rdI hr hx
  simp only at q0 q1 q2 q3
  obtain ⟨ha1, ha2⟩ := ha
  obtain ⟨hb1, hb2⟩ := hb
  clear hx hr
  by_cases hR : rg = 1
  · have hr1 : (rg == 1) = true := by simpa using hR
    have HRG := Lib.hid hR
    clear hR
    by_cases hK : kd = 0
    · have hk1 : (kd == 0) = true := by simpa using hK
      have HKD := Lib.hid hK; have HV := Lib.hid hK
      clear hK
      have HS : Hid (stepC ⟨kd, rg, th, el⟩ ⟨k, a, b⟩ = (⟨th, a, b + 1⟩, decide (b + 1 ≤ 1000000000000))) := Lib.hid (by simp [stepC, HRG.out, HKD.out, HV.out])
      go_enter Try.func116, Try.ntmps116
      go_wp2_with fail
      exact bodyPost_ret (v := .tuple #[cntV ⟨th, a, b + 1⟩, .bool (decide (b + 1 ≤ 1000000000000))]) (by (simp [results, Try.results116, go_sem]) <;> omega) rfl ⟨by rw [HS.out], (((Below.refl _ _).alloc (Nat.le_refl _) _).alloc (by simp) _).alloc (by simp; omega) _⟩
    · have hk1 : (kd == 0) = false := by simpa using hK
      have HKD := Lib.hid hK
      clear hK
      by_cases hZ : b = 0
      · have hz1 : (b == 0) = true := by simpa using hZ
        have HV := Lib.hid hZ
        clear hZ
        have HS : Hid (stepC ⟨kd, rg, th, el⟩ ⟨k, a, b⟩ = (⟨el, a, b⟩, decide (b ≤ 1000000000000))) := Lib.hid (by simp [stepC, HRG.out, HKD.out, HV.out])
        go_enter Try.func116, Try.ntmps116
        go_wp2_with fail
        exact bodyPost_ret (v := .tuple #[cntV ⟨el, a, b⟩, .bool (decide (b ≤ 1000000000000))]) (by (simp [results, Try.results116, go_sem]) <;> omega) rfl ⟨by rw [HS.out], (((Below.refl _ _).alloc (Nat.le_refl _) _).alloc (by simp) _).alloc (by simp; omega) _⟩
      · have hz1 : (b == 0) = false := by simpa using hZ
        have HV := Lib.hid hZ
        have hpos : 1 ≤ b := by omega
        clear hZ
        have HS : Hid (stepC ⟨kd, rg, th, el⟩ ⟨k, a, b⟩ = (⟨th, a, b - 1⟩, decide (b - 1 ≤ 1000000000000))) := Lib.hid (by simp [stepC, HRG.out, HKD.out, HV.out])
        go_enter Try.func116, Try.ntmps116
        go_wp2_with fail
        exact bodyPost_ret (v := .tuple #[cntV ⟨th, a, b - 1⟩, .bool (decide (b - 1 ≤ 1000000000000))]) (by (simp [results, Try.results116, go_sem]) <;> omega) rfl ⟨by rw [HS.out], (((Below.refl _ _).alloc (Nat.le_refl _) _).alloc (by simp) _).alloc (by simp; omega) _⟩
  · have hr1 : (rg == 1) = false := by simpa using hR
    have HRG := Lib.hid hR
    clear hR
    by_cases hK : kd = 0
    · have hk1 : (kd == 0) = true := by simpa using hK
      have HKD := Lib.hid hK; have HV := Lib.hid hK
      clear hK
      have HS : Hid (stepC ⟨kd, rg, th, el⟩ ⟨k, a, b⟩ = (⟨th, a + 1, b⟩, decide (a + 1 ≤ 1000000000000))) := Lib.hid (by simp [stepC, HRG.out, HKD.out, HV.out])
      go_enter Try.func116, Try.ntmps116
      go_wp2_with fail
      exact bodyPost_ret (v := .tuple #[cntV ⟨th, a + 1, b⟩, .bool (decide (a + 1 ≤ 1000000000000))]) (by (simp [results, Try.results116, go_sem]) <;> omega) rfl ⟨by rw [HS.out], (((Below.refl _ _).alloc (Nat.le_refl _) _).alloc (by simp) _).alloc (by simp; omega) _⟩
    · have hk1 : (kd == 0) = false := by simpa using hK
      have HKD := Lib.hid hK
      clear hK
      by_cases hZ : a = 0
      · have hz1 : (a == 0) = true := by simpa using hZ
        have HV := Lib.hid hZ
        clear hZ
        have HS : Hid (stepC ⟨kd, rg, th, el⟩ ⟨k, a, b⟩ = (⟨el, a, b⟩, decide (a ≤ 1000000000000))) := Lib.hid (by simp [stepC, HRG.out, HKD.out, HV.out])
        go_enter Try.func116, Try.ntmps116
        go_wp2_with fail
        exact bodyPost_ret (v := .tuple #[cntV ⟨el, a, b⟩, .bool (decide (a ≤ 1000000000000))]) (by (simp [results, Try.results116, go_sem]) <;> omega) rfl ⟨by rw [HS.out], (((Below.refl _ _).alloc (Nat.le_refl _) _).alloc (by simp) _).alloc (by simp; omega) _⟩
      · have hz1 : (a == 0) = false := by simpa using hZ
        have HV := Lib.hid hZ
        have hpos : 1 ≤ a := by omega
        clear hZ
        have HS : Hid (stepC ⟨kd, rg, th, el⟩ ⟨k, a, b⟩ = (⟨th, a - 1, b⟩, decide (a - 1 ≤ 1000000000000))) := Lib.hid (by simp [stepC, HRG.out, HKD.out, HV.out])
        go_enter Try.func116, Try.ntmps116
        go_wp2_with fail
        exact bodyPost_ret (v := .tuple #[cntV ⟨th, a - 1, b⟩, .bool (decide (a - 1 ≤ 1000000000000))]) (by (simp [results, Try.results116, go_sem]) <;> omega) rfl ⟨by rw [HS.out], (((Below.refl _ _).alloc (Nat.le_refl _) _).alloc (by simp) _).alloc (by simp; omega) _⟩
end Go.Proofs.Ytbecofpklndpaaa
