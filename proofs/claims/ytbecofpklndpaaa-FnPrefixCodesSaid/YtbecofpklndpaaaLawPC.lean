/- The law on prefix codes. -/
import Derived.Test.YtbecofpklndpaaaPc6
import Derived.Test.YtbecofpklndpaaaLawWR
namespace Go.Proofs.Ytbecofpklndpaaa
open Go.RowKit
set_option linter.unusedVariables false
set_option linter.unusedSimpArgs false
set_option maxHeartbeats 400000 in
theorem IsPrefixCode_any (w : World) (A : Option Addr) (n c : Nat) (xss : List (List Int)) (hr : RdLc w A n xss) (hn : n ≤ 1000000000) (hC : Code xss) :
    Calls Try.prog 19 #[.slice A n c] w (RetV w (.bool true)) := by
  go_enter Try.func19, Try.ntmps19
  go_wp2_with fail
  refine (areWords_any _ _ _ _ _ hr hn hC).mono ?_
  rintro e w' ⟨rfl, rfl⟩
  go_wp2_with fail
  refine (isPrefixCode_any _ _ _ _ _ hr hC).mono ?_
  rintro e w1 ⟨rfl, hb1⟩
  go_wp2_with fail
  go_ret
  exact ⟨rfl, hb1⟩
set_option maxHeartbeats 4000000 in
set_option maxRecDepth 100000 in
theorem lawPrefixCodes (w : World) (A0 : Option Addr) (n0 c0 : Nat) (b0 : List Int) (hr0 : Rd w A0 n0 (bytesV b0)) (hb0 : ∀ b ∈ b0, 0 ≤ b ∧ b ≤ 255) (hnn0 : n0 ≤ 9223372036854775807) (A1 : Option Addr) (n1 c1 : Nat) (b1 : List Int) (hr1 : Rd w A1 n1 (bytesV b1)) (hb1 : ∀ b ∈ b1, 0 ≤ b ∧ b ≤ 255) (hnn1 : n1 ≤ 9223372036854775807) :
    Calls Try.prog 3 #[.slice A0 n0 c0, .slice A1 n1 c1] w fun e w' => e = .returned (.bool true) ∧ Below w.heap.size w w' := by
  have HB0 := Lib.hid hb0
  clear hb0 hb1
  by_cases hlong : 1048576 < n0 ∨ 1048576 < n1
  · have HLo := Lib.hid (decide_eq_true hlong)
    clear hlong
    go_enter Try.func3, Try.ntmps3
    go_wp2_with (go_at_call 15; refine (r8Long_any _ _ _ _ _ _ _).mono ?_; rw [HLo.out]; rintro e w' ⟨rfl, rfl⟩)
    go_ret
    exact ⟨rfl, Below.refl _ _⟩
  · have HLo := Lib.hid (decide_eq_false hlong)
    have hn0 : n0 ≤ 1048576 := by omega
    clear hlong hnn0 hnn1
    go_enter Try.func3, Try.ntmps3
    go_wp2_with fail
    refine (r8Long_any _ _ _ _ _ _ _).mono ?_
    rw [HLo.out]
    rintro e w' ⟨rfl, rfl⟩
    go_wp2_with fail
    refine (R8Codes_any w A0 n0 c0 b0 hr0 HB0.out (by omega)).mono ?_
    rintro e w1 ⟨A, n, c, xss, A2, m, c2, ns, rfl, hrl, hC, hrn, hm, hns, hbw1⟩
    have hn4 : n ≤ 4 := by have := hC.few; rw [hrl.len] at this; exact this
    have HML : Hid (ns.length ≤ 8) := Lib.hid (by have := hrn.1; simp [nats] at this; omega)
    have HC := Lib.hid hC; have HNS := Lib.hid hns
    clear hC hns
    go_wp2_with fail
    refine (EncodeWith_any w1 A n c xss hrl HC.out A2 m c2 ns hrn hm HNS.out).mono ?_
    rintro e w2 ⟨A3, n3, c3, rfl, ho3, hbw2⟩
    have hB2 := hbw1.trans (hbw2.mono hbw1.size)
    go_wp2_with fail
    refine (DecodeWith_any w2 A n c xss (hrl.below hbw2 (Nat.le_refl _)) HC.out A3 n3 c3 ns (own_rd ho3) (ownN_cap ho3) HML.out HNS.out).mono ?_
    rintro e w3 ⟨A4, n4, c4, rfl, hr4, hbw3⟩
    have hn4' : n4 ≤ 8 := by have := hr4.1; simp [nats] at this; have h2 := HML.out; omega
    have hB3 := hB2.trans (hbw3.mono hB2.size)
    go_wp2_with fail
    refine (IsPrefixCode_any w3 A n c xss ((hrl.below hbw2 (Nat.le_refl _)).below hbw3 (Nat.le_refl _)) (by omega) HC.out).mono ?_
    rintro e w4 ⟨rfl, hbw4⟩
    have hB4 := hB3.trans (hbw4.mono hB3.size)
    go_wp2_with fail
    refine (r8Same_same w4 _ _ _ _ _ _ (nats ns) (hr4.below hbw4 (Nat.le_refl _)) (((hrn.below hbw2 (Nat.le_refl _)).below hbw3 (Nat.le_refl _)).below hbw4 (Nat.le_refl _)) (by omega)).mono ?_
    rintro e w5 ⟨rfl, hbw5⟩
    go_wp2_with fail
    go_ret
    exact ⟨rfl, hB4.trans (hbw5.mono hB4.size)⟩
end Go.Proofs.Ytbecofpklndpaaa
