/- The law on the order of trees. -/
import Derived.Test.YtilbgbibddjdcaaOrdL
import Derived.Test.YtilbgbibddjdcaaGC
namespace Go.Proofs.Ytilbgbibddjdcaa
open Go.RowKit
set_option linter.unusedVariables false
set_option linter.unusedSimpArgs false
abbrev bytesV (bs : List Int) : List Value := bs.map (Value.int .u8)
set_option maxHeartbeats 400000 in
theorem r8Long_any (w : World) (A A' : Option Addr) (n c n' c' : Nat) : Calls Try.prog 18 #[.slice A n c, .slice A' n' c'] w fun e w' => e = .returned (.bool (decide (1048576 < n ∨ 1048576 < n'))) ∧ w = w' := by
  by_cases h1 : 1048576 < n
  · have d1 : decide ((1048576 : Int) < (n : Int)) = true := decide_eq_true (by omega)
    have HO : Hid (decide (1048576 < n ∨ 1048576 < n') = true) := Lib.hid (decide_eq_true (.inl h1))
    go_enter Try.func18, Try.ntmps18
    go_wp2_with fail
    go_ret
    exact ⟨by rw [HO.out]; rfl, rfl⟩
  · have d1 : decide ((1048576 : Int) < (n : Int)) = false := decide_eq_false (by omega)
    have HO : Hid (decide (1048576 < n ∨ 1048576 < n') = decide (1048576 < n')) := Lib.hid (by simp [h1])
    go_enter Try.func18, Try.ntmps18
    go_wp2_with fail
    go_ret
    exact ⟨by rw [HO.out]; simp; omega, rfl⟩
set_option maxHeartbeats 1000000 in
theorem r8At_any (w : World) (A : Option Addr) (n c : Nat) (bs : List Int) (hr : Rd w A n (bytesV bs)) (hbs : ∀ b ∈ bs, 0 ≤ b ∧ b ≤ 255) (hn : n ≤ 1048576) (k : Nat) (hk : k ≤ 1) (x : Int) (hx : x = (k : Int)) :
    Calls Try.prog 19 #[.slice A n c, .int .i64 x, .int .i64 250] w fun e w' => ∃ v : Nat, e = .returned (.int .i64 v) ∧ v < 250 ∧ w = w' := by
  subst hx
  by_cases h : k < n
  · obtain ⟨b, hb⟩ := get_some (xs := bs) (k := k) (by have := hr.1; simp at this; omega)
    obtain ⟨h0, h1⟩ := hbs b (List.mem_of_getElem? hb)
    obtain ⟨blk, off, rfl, hbk, q0⟩ := hr.at_ (k := k) (u := .int .u8 b) (by simp [hb])
    obtain ⟨m, rfl⟩ : ∃ m : Nat, b = (m : Int) := ⟨b.toNat, by omega⟩
    have h' : ¬ (n : Int) ≤ (k : Int) := by omega
    have HM : Hid (m ≤ 255) := Lib.hid (by omega)
    have hmb : m ≤ 255 := by omega
    clear hb hr hbs h0 h1
    go_enter Try.func19, Try.ntmps19
    go_wp2_with fail
    go_ret
    refine ⟨m % 250, ?_, Nat.mod_lt _ (by omega), rfl⟩
    have e1 : Int.tmod (m : Int) 250 = ((m % 250 : Nat) : Int) := by rw [Int.tmod_eq_emod_of_nonneg (by omega)]; omega
    first
      | (rw [← e1]; rfl)
      | (simp only [e1]; rfl)
      | (simp [e1]; done)
  · have h' : (n : Int) ≤ (k : Int) := by omega
    go_enter Try.func19, Try.ntmps19
    go_wp2_with fail
    go_ret
    exact ⟨0, rfl, by omega, rfl⟩
set_option maxHeartbeats 8000000 in
set_option maxRecDepth 100000 in
theorem lawTreeOrder (w : World) (A0 : Option Addr) (n0 c0 : Nat) (b0 : List Int) (hr0 : Rd w A0 n0 (bytesV b0)) (hb0 : ∀ b ∈ b0, 0 ≤ b ∧ b ≤ 255) (hnn0 : n0 ≤ 9223372036854775807) (A1 : Option Addr) (n1 c1 : Nat) (b1 : List Int) (hr1 : Rd w A1 n1 (bytesV b1)) (hb1 : ∀ b ∈ b1, 0 ≤ b ∧ b ≤ 255) (hnn1 : n1 ≤ 9223372036854775807) :
    Calls Try.prog 4 #[.slice A0 n0 c0, .slice A1 n1 c1] w fun e w' => e = .returned (.bool true) ∧ Below w.heap.size w w' := by
  have HB0 := Lib.hid hb0
  clear hb0 hb1 hr1
  by_cases hlong : 1048576 < n0 ∨ 1048576 < n1
  · have HLo := Lib.hid (decide_eq_true hlong)
    clear hlong
    go_enter Try.func4, Try.ntmps4
    go_wp2_with (go_at_call 18; refine (r8Long_any _ _ _ _ _ _ _).mono ?_; rw [HLo.out]; rintro e w' ⟨rfl, rfl⟩)
    go_ret
    exact ⟨rfl, Below.refl _ _⟩
  · have HLo := Lib.hid (decide_eq_false hlong)
    have hn0 : n0 ≤ 1048576 := by omega
    clear hlong hnn0 hnn1
    go_enter Try.func4, Try.ntmps4
    go_wp2_with fail
    refine (r8Long_any _ _ _ _ _ _ _).mono ?_
    rw [HLo.out]
    rintro e w' ⟨rfl, rfl⟩
    go_wp2_with fail
    refine (r8At_any w A0 n0 c0 b0 hr0 HB0.out hn0 0 (by omega) _ rfl).mono ?_
    rintro e w' ⟨p, rfl, hp, rfl⟩
    go_wp2_with fail
    refine (r8At_any w A0 n0 c0 b0 hr0 HB0.out hn0 1 (by omega) _ rfl).mono ?_
    rintro e w' ⟨q, rfl, hq, rfl⟩
    obtain ⟨k, hk⟩ : ∃ k : Nat, k = 250 * p + q := ⟨_, rfl⟩
    have hkb : k < 62501 := by omega
    have ek : (250 * (p : Int) + (q : Int)) = (k : Int) := by omega
    obtain ⟨n, r, hat, hn⟩ := at_ex k (by omega)
    obtain ⟨n', r', hat', hn'⟩ := at_ex (k + 1) (by omega)
    obtain ⟨t, htb, htn, _, htr⟩ := ord_tree hat (by omega)
    obtain ⟨t', htb', htn', hrk', htr'⟩ := ord_tree hat' (by omega)
    have HCM : Hid (cmpB t.bits t'.bits = -1) := Lib.hid (by rw [← htb, ← htb']; exact cmp_next hat hat')
    have HRK : Hid (rankI t'.bits = ((k + 1 : Nat) : Int) ∧ rankC t'.bits = 0) := Lib.hid (by
      have h := rank_ok htr' (by rw [t'.bits_len]; omega) (by rw [hrk']; omega)
      rw [hrk'] at h; exact h)
    have HT := Lib.hid htr
    have H1 := Lib.hid (TreeAt_any w k n r hat (by omega) (by omega))
    rw [htb] at H1
    have H2 := Lib.hid (fun w' => TreeAt_any w' (k + 1) n' r' hat' (by omega) (by omega))
    simp only [htb'] at H2
    have HTN := Lib.hid htn
    have HTN' := Lib.hid htn'
    have HK := Lib.hid hk
    have HEK := Lib.hid ek
    have e1 : ((k : Int) + 1) = ((k + 1 : Nat) : Int) := by omega
    have HE1 := Lib.hid e1
    have HPB := Lib.hid hp; have HQB := Lib.hid hq
    clear hat hat' htb htb' htn htn' hrk' htr htr' hk ek e1
    go_wp2_with fail
    first | rw [HEK.out] | simp only [HEK.out]
    refine H1.out.mono ?_
    rintro e w1 ⟨A2, n2, c2, rfl, ho2, hb2⟩
    have hn2 : n2 ≤ 23 := by have h1 := ho2.1; have h2 := HTN.out; simp [Tr.bits_len] at h1; omega
    have HO2 := Lib.hid ho2
    clear ho2
    have H2' := Lib.hid (H2.out w1)
    rw [← HE1.out] at H2'
    go_wp2_with fail
    refine H2'.out.mono ?_
    rintro e w2 ⟨A3, n3, c3, rfl, ho3, hb3⟩
    have hn3 : n3 ≤ 23 := by have h1 := ho3.1; have h2 := HTN'.out; simp [Tr.bits_len] at h1; omega
    have HR3 := Lib.hid (own_rd ho3)
    have HR2 := Lib.hid ((own_rd HO2.out).below hb3 (Nat.le_refl _))
    have HB3 := Lib.hid (hb2.trans (hb3.mono hb2.size))
    clear ho3 hb2 hb3
    go_wp2_with fail
    refine (implRankTree_any _ _ _ _ t'.bits HR3.out (by omega)).mono ?_
    rintro e w3 ⟨rfl, hb4⟩
    rw [HRK.out.1, HRK.out.2, ← HE1.out]
    have HR34 := Lib.hid (HR3.out.below hb4 (Nat.le_refl _))
    have HR24 := Lib.hid (HR2.out.below hb4 (Nat.le_refl _))
    have HB4 := Lib.hid (HB3.out.trans (hb4.mono HB3.out.size))
    clear hb4
    go_wp2_with fail
    refine (CompareTrees_any _ _ _ _ t.bits HR24.out (by omega) _ _ _ t'.bits HR34.out (by omega)).mono ?_
    rw [HCM.out]
    rintro e w4 ⟨rfl, hb5⟩
    have HR25 := Lib.hid (HR24.out.below hb5 (Nat.le_refl _))
    have HB5 := Lib.hid (HB4.out.trans (hb5.mono HB4.out.size))
    clear hb5
    go_wp2_with (go_at_call 22; go_must (refine (IsTree_any _ _ _ _ _ HR25.out (by omega)).mono ?_; rw [HT.out]; rintro e w' ⟨rfl, rfl⟩))
    refine (ListOfTree_any _ _ _ _ t HR25.out (by have := HTN.out; omega)).mono ?_
    rintro e w5 ⟨A6, n6, c6, us6, rfl, ho6, hst6, hb6⟩
    have HIL := Lib.hid (items_len t)
    have hn6 : n6 ≤ 100 := by have h1 := ho6.1; have h2 := hst6.1; have h3 := HIL.out; have h4 := HTN.out; simp at h1 h2; omega
    have HRD := Lib.hid (hst6.rdb (own_rd ho6) (fun x hx => by have h3 := item_nodes hx; have h4 := HTN.out; omega))
    have HR26 := Lib.hid (HR25.out.below hb6 (Nat.le_refl _))
    have HB6 := Lib.hid (HB5.out.trans (hb6.mono HB5.out.size))
    clear ho6 hst6 hb6
    go_wp2_with fail
    have htl := TreeOfList_any w5 A6 n6 c6 t.items HRD.out hn6 (by rw [items_lstA]; have := HTN.out; omega)
    rw [items_lstA] at htl
    refine htl.mono ?_
    rintro e w6 ⟨A7, n7, c7, rfl, ho7, hb7⟩
    have hn7 : n7 ≤ 23 := by have h1 := ho7.1; have h2 := HTN.out; simp [Tr.bits_len] at h1; omega
    have HR7 := Lib.hid (own_rd ho7)
    have HR27 := Lib.hid (HR26.out.below hb7 (Nat.le_refl _))
    have HB7 := Lib.hid (HB6.out.trans (hb7.mono HB6.out.size))
    have em : Int.tmod (k : Int) 100 = ((k % 100 : Nat) : Int) := by rw [Int.tmod_eq_emod_of_nonneg (by omega)]; omega
    have HEM := Lib.hid em
    have hm : k % 100 ≤ 100 := by omega
    clear ho7 hb7 htl em
    generalize k % 100 = m at HEM hm
    have kem : Int.tmod (k : Int) 100 = (m : Int) := HEM.out
    go_wp2_with fail
    refine (TreeOfNumber_any _ m hm).mono ?_
    rintro e w7 ⟨A8, n8, c8, rfl, ho8, hb8⟩
    have HR8 := Lib.hid (own_rd ho8)
    have HR78 := Lib.hid (HR7.out.below hb8 (Nat.le_refl _))
    have HR28 := Lib.hid (HR27.out.below hb8 (Nat.le_refl _))
    have HB8 := Lib.hid (HB7.out.trans (hb8.mono HB7.out.size))
    clear ho8 hb8
    go_wp2_with fail
    refine (NumberOfTree_any _ _ _ _ m HR8.out hm).mono ?_
    rintro e w8 ⟨rfl, hb9⟩
    have HR79 := Lib.hid (HR78.out.below hb9 (Nat.le_refl _))
    have HR29 := Lib.hid (HR28.out.below hb9 (Nat.le_refl _))
    have HB9 := Lib.hid (HB8.out.trans (hb9.mono HB8.out.size))
    clear hb9
    go_wp2_with fail
    refine (r8Tree_same _ _ _ _ t.bits HR79.out (by omega) _ _ _ HR29.out).mono ?_
    rintro e w9 ⟨rfl, hb10⟩
    have HB10 := Lib.hid (HB9.out.trans (hb10.mono HB9.out.size))
    clear hb10
    go_wp2_with fail
    go_ret
    exact ⟨rfl, HB10.out⟩
end Go.Proofs.Ytilbgbibddjdcaa
