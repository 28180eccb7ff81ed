/- DecodeExpr: both functions. -/
import Derived.Test.YtilbgbibddjdcaaBackI
namespace Go.Proofs.Ytilbgbibddjdcaa
open Go.RowKit
set_option linter.unusedVariables false
set_option linter.unusedSimpArgs false
theorem dex_bad {bs : List Bool} (h : isTr bs = false) : dexL bs = [] ∧ dexC bs = 1 := by simp [dexL, dexC, h]
theorem dex_none {t : Tr} (h : t.nodes ≤ 2000) (hb : backT t = none) : dexL t.bits = [] ∧ dexC t.bits = 9 := by simp [dexL, dexC, isTr_bits h, treeB_bits, hb]
theorem dex_long {t : Tr} {z : List El} (h : t.nodes ≤ 2000) (hb : backT t = some z) (hl : ¬ z.length ≤ 40) : dexL t.bits = [] ∧ dexC t.bits = 5 := by simp [dexL, dexC, isTr_bits h, treeB_bits, hb, hl]
theorem dex_ok {t : Tr} {z : List El} (h : t.nodes ≤ 2000) (hb : backT t = some z) (hl : z.length ≤ 40) : dexL t.bits = z ∧ dexC t.bits = 0 := by simp [dexL, dexC, isTr_bits h, treeB_bits, hb, hl]
theorem dexL_len (bs : List Bool) : (eNums (dexL bs)).length ≤ 1000000 := by
  rw [eNums_len]
  unfold dexL
  split
  · split
    · split
      · omega
      · simp
    · simp
  · simp
def DexP (w : World) (bs : List Bool) (e : Ending) (w' : World) : Prop := ∃ A n c, e = .returned (.tuple #[.slice A n c, .int .i64 (dexC bs)]) ∧ w'.ownsRow w.heap.size 89 2 (.slice A n c) n (ints (eNums (dexL bs))) ∧ Below w.heap.size w w'
set_option maxHeartbeats 4000000 in
theorem specDecodeExpr_any (w : World) (A : Option Addr) (n c : Nat) (bs : List Bool) (hr : Rd w A n (bools bs)) (hn : n ≤ 1099511627776) (hnc : n ≤ c) : Calls Try.prog 36 #[.slice A n c] w (DexP w bs) := by
  cases hv : isTr bs with
  | false =>
    have HQ := Lib.hid (dex_bad hv)
    have HV := Lib.hid hv
    clear hv
    go_enter Try.func36, Try.ntmps36
    go_wp2_with (go_at_call 58; go_must (refine (l21Is_any _ _ _ _ _ hr hn).mono ?_; rw [HV.out]; rintro e w' ⟨rfl, rfl⟩))
    go_ret2
    exact ⟨none, 0, 0, by rw [HQ.out.2]; rfl, by rw [HQ.out.1]; exact ownN_nil _ _ _ _, Below.refl _ _⟩
  | true =>
    have HV := Lib.hid hv
    obtain ⟨t, rfl, ht⟩ := isTr_tree hv
    have hnt : n ≤ 2000 := by have := hr.1; simp [Tr.bits_len] at this; omega
    have hcb := l23Back_any t.nodes t (Nat.le_refl _) w A n c hr (by omega) hnc
    cases hb : backT t with
    | none =>
      rw [hb] at hcb
      have HQ := Lib.hid (dex_none ht hb)
      clear hv hb
      go_enter Try.func36, Try.ntmps36
      go_wp2_with (go_at_call 58; go_must (refine (l21Is_any _ _ _ _ _ hr hn).mono ?_; rw [HV.out]; rintro e w' ⟨rfl, rfl⟩))
      refine hcb.mono ?_
      rintro e w2 ⟨A2, n2, c2, zs, rfl, ho2, hz2, hn2, hb2⟩
      simp only [Option.isSome_none]
      go_wp2_with fail
      go_ret2
      exact ⟨none, 0, 0, by rw [HQ.out.2]; rfl, by rw [HQ.out.1]; exact ownN_nil _ _ _ _, hb2⟩
    | some z =>
      rw [hb] at hcb
      by_cases hl : z.length ≤ 40
      · have HQ := Lib.hid (dex_ok ht hb hl)
        clear hv hb
        go_enter Try.func36, Try.ntmps36
        go_wp2_with (go_at_call 58; go_must (refine (l21Is_any _ _ _ _ _ hr hn).mono ?_; rw [HV.out]; rintro e w' ⟨rfl, rfl⟩))
        refine hcb.mono ?_
        rintro e w2 ⟨A2, n2, c2, zs, rfl, ho2, hz2, hn2, hb2⟩
        obtain rfl : zs = z := hz2 z rfl
        have hl2 : n2 ≤ 40 := by have := eN_len ho2; omega
        simp only [Option.isSome_some]
        clear hz2 hl
        go_wp2_with fail
        go_ret2
        exact ⟨A2, n2, c2, by rw [HQ.out.2]; rfl, by rw [HQ.out.1]; exact ho2, hb2⟩
      · have HQ := Lib.hid (dex_long ht hb hl)
        clear hv hb
        go_enter Try.func36, Try.ntmps36
        go_wp2_with (go_at_call 58; go_must (refine (l21Is_any _ _ _ _ _ hr hn).mono ?_; rw [HV.out]; rintro e w' ⟨rfl, rfl⟩))
        refine hcb.mono ?_
        rintro e w2 ⟨A2, n2, c2, zs, rfl, ho2, hz2, hn2, hb2⟩
        obtain rfl : zs = z := hz2 z rfl
        have hl2 : 40 < n2 := by have := eN_len ho2; omega
        simp only [Option.isSome_some]
        clear hz2 hl
        go_wp2_with fail
        go_ret2
        exact ⟨none, 0, 0, by rw [HQ.out.2]; rfl, by rw [HQ.out.1]; exact ownN_nil _ _ _ _, hb2⟩
set_option maxHeartbeats 4000000 in
theorem implDecodeExpr_any (w : World) (A : Option Addr) (n c : Nat) (bs : List Bool) (hr : Rd w A n (bools bs)) (hn : n ≤ 1099511627776) : Calls Try.prog 37 #[.slice A n c] w (DexP w bs) := by
  cases hv : isTr bs with
  | false =>
    have HQ := Lib.hid (dex_bad hv)
    have HV := Lib.hid hv
    clear hv
    go_enter Try.func37, Try.ntmps37
    go_wp2_with (go_at_call 22; go_must (refine (IsTree_any _ _ _ _ _ hr hn).mono ?_; rw [HV.out]; rintro e w' ⟨rfl, rfl⟩))
    go_ret2
    exact ⟨none, 0, 0, by rw [HQ.out.2]; rfl, by rw [HQ.out.1]; exact ownN_nil _ _ _ _, Below.refl _ _⟩
  | true =>
    have HV := Lib.hid hv
    obtain ⟨t, rfl, ht⟩ := isTr_tree hv
    have hnt : n ≤ 2000 := by have := hr.1; simp [Tr.bits_len] at this; omega
    have hcb := Lib.hid (fun (w2 : World) (v : Value) (h : IsT w2 w.heap.size w2.heap.size v t) (hs : w.heap.size ≤ w2.heap.size) => decodedExpr_any t.nodes t (Nat.le_refl _) w2 w.heap.size v h hs (by omega))
    cases hb : backT t with
    | none =>
      have HQ := Lib.hid (dex_none ht hb)
      have HB := Lib.hid hb
      clear hv hb
      go_enter Try.func37, Try.ntmps37
      go_wp2_with (go_at_call 22; go_must (refine (IsTree_any _ _ _ _ _ hr hn).mono ?_; rw [HV.out]; rintro e w' ⟨rfl, rfl⟩))
      refine (treeOf_any _ _ _ _ t hr (by omega)).mono ?_
      rintro e w1 ⟨v1, rfl, h1, hb1⟩
      obtain ⟨o1, rfl⟩ := h1.isPtr
      go_wp2_with fail
      refine (hcb.out _ _ h1 hb1.size).mono ?_
      rw [HB.out]
      rintro e w2 ⟨A2, n2, c2, zs, rfl, ho2, hz2, hn2, hb2⟩
      simp only [Option.isSome_none]
      go_wp2_with fail
      go_ret2
      exact ⟨none, 0, 0, by rw [HQ.out.2]; rfl, by rw [HQ.out.1]; exact ownN_nil _ _ _ _, hb1.trans (hb2.mono hb1.size)⟩
    | some z =>
      have HB := Lib.hid hb
      by_cases hl : z.length ≤ 40
      · have HQ := Lib.hid (dex_ok ht hb hl)
        clear hv hb
        go_enter Try.func37, Try.ntmps37
        go_wp2_with (go_at_call 22; go_must (refine (IsTree_any _ _ _ _ _ hr hn).mono ?_; rw [HV.out]; rintro e w' ⟨rfl, rfl⟩))
        refine (treeOf_any _ _ _ _ t hr (by omega)).mono ?_
        rintro e w1 ⟨v1, rfl, h1, hb1⟩
        obtain ⟨o1, rfl⟩ := h1.isPtr
        go_wp2_with fail
        refine (hcb.out _ _ h1 hb1.size).mono ?_
        rw [HB.out]
        rintro e w2 ⟨A2, n2, c2, zs, rfl, ho2, hz2, hn2, hb2⟩
        obtain rfl : zs = z := hz2 z rfl
        have hl2 : n2 ≤ 40 := by have := eN_len ho2; omega
        simp only [Option.isSome_some]
        clear hz2 hl
        go_wp2_with fail
        go_ret2
        exact ⟨A2, n2, c2, by rw [HQ.out.2]; rfl, by rw [HQ.out.1]; exact ownN_base ho2 hb1.size, hb1.trans (hb2.mono hb1.size)⟩
      · have HQ := Lib.hid (dex_long ht hb hl)
        clear hv hb
        go_enter Try.func37, Try.ntmps37
        go_wp2_with (go_at_call 22; go_must (refine (IsTree_any _ _ _ _ _ hr hn).mono ?_; rw [HV.out]; rintro e w' ⟨rfl, rfl⟩))
        refine (treeOf_any _ _ _ _ t hr (by omega)).mono ?_
        rintro e w1 ⟨v1, rfl, h1, hb1⟩
        obtain ⟨o1, rfl⟩ := h1.isPtr
        go_wp2_with fail
        refine (hcb.out _ _ h1 hb1.size).mono ?_
        rw [HB.out]
        rintro e w2 ⟨A2, n2, c2, zs, rfl, ho2, hz2, hn2, hb2⟩
        obtain rfl : zs = z := hz2 z rfl
        have hl2 : 40 < n2 := by have := eN_len ho2; omega
        simp only [Option.isSome_some]
        clear hz2 hl
        go_wp2_with fail
        go_ret2
        exact ⟨none, 0, 0, by rw [HQ.out.2]; rfl, by rw [HQ.out.1]; exact ownN_nil _ _ _ _, hb1.trans (hb2.mono hb1.size)⟩
end Go.Proofs.Ytilbgbibddjdcaa
