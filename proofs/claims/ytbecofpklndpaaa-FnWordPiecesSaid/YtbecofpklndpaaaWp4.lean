/- Word pieces: periods, borders, roots. -/
import Derived.Test.YtbecofpklndpaaaWp3
namespace Go.Proofs.Ytbecofpklndpaaa
open Go.RowKit
set_option linter.unusedVariables false
set_option linter.unusedSimpArgs false
theorem lastB_get {xs : List Int} {n : Nat} (hl : xs.length = n) (h1 : 1 ≤ n) : ((ptTo xs n).map (fun t : Nat => (t : Int)))[n - 1]? = some ((lastB xs : Nat) : Int) := by
  unfold lastB
  rw [hl, List.getElem?_map, List.getD_eq_getElem?_getD, List.getElem?_eq_getElem (by rw [ptTo_len]; omega)]
  simp
set_option maxHeartbeats 1000000 in
theorem periodOf_any (w : World) (A : Option Addr) (n c : Nat) (xs : List Int) (hr : Rd w A n (ints xs)) (h1 : 1 ≤ n) (hn : n ≤ 400) :
    Calls Try.prog 166 #[.slice A n c] w (RetV w (.int .i64 ((period xs : Nat) : Int))) := by
  have hl : xs.length = n := by simpa using hr.1
  have hb := lastB_ok (w := xs) (by omega)
  have hlb : lastB xs ≤ n := by have := hb.1; omega
  have HP : Hid ((n : Int) - ((lastB xs : Nat) : Int) = ((period xs : Nat) : Int)) := Lib.hid (by unfold period; rw [hl]; omega)
  have HG := Lib.hid (lastB_get hl h1)
  have hw : IntKind.i64.wrap ((n : Int) - 1) = (n : Int) - 1 := IntWalk.i64_in _ (by omega)
  have htn : ((n : Int) - 1).toNat = n - 1 := by omega
  have hi0 : (0 : Int) ≤ (n : Int) - 1 := by omega
  have hi2 : (n : Int) - 1 < (n : Int) := by omega
  generalize lastB xs = L at *
  have hw2 : IntKind.i64.wrap ((n : Int) - (L : Int)) = (n : Int) - (L : Int) := IntWalk.i64_in _ (by omega)
  clear hl hb
  go_enter Try.func166, Try.ntmps166
  go_wp2_with fail
  refine (prefixTable_any _ A n c xs hr h1 (by omega)).mono ?_
  rintro e w2 ⟨g, c', rfl, ho2, hb2⟩
  obtain ⟨g1, hg1, _, _, hct, _⟩ := own_get ho2 (k := n - 1) (ints_get HG.out)
  injection hg1 with hg1
  injection hg1 with hg1
  subst hg1
  clear ho2
  go_wp2_with fail
  go_ret
  exact ⟨by rw [← HP.out]; rfl, hb2⟩
set_option maxHeartbeats 1000000 in
theorem PeriodOf_any (w : World) (A : Option Addr) (n c : Nat) (xs : List Int) (hr : Rd w A n (ints xs)) (h1 : 1 ≤ n) (hx : Wd xs) :
    Calls Try.prog 77 #[.slice A n c] w (RetV w (.tuple #[.int .i64 ((period xs : Nat) : Int), .int .i64 0])) := by
  have hl : xs.length = n := by simpa using hr.1
  have hn : n ≤ 100 := by have := hx.2; omega
  have HX := Lib.hid hx.1
  have hz : ((n : Int) == 0) = false := beq_eq_false_iff_ne.2 (by omega)
  have hz2 : ¬ n = 0 := by omega
  clear hl hx
  go_enter Try.func77, Try.ntmps77
  go_wp2_with fail
  refine (IsWord_small _ _ _ _ xs hr (by omega) HX.out).mono ?_
  rintro e w2 ⟨rfl, rfl⟩
  go_wp2_with fail
  refine (periodOf_any _ _ _ _ xs hr h1 (by omega)).mono ?_
  rintro e w2 ⟨rfl, hb2⟩
  go_wp2_with fail
  go_ret2
  exact ⟨rfl, hb2⟩
/-- What BordersOf returns. -/
def BdP (w : World) (n L : Nat) (e : Ending) (w' : World) : Prop := ∃ r : List Int, RetSI w 2 (ints (r ++ [(L : Int)])) 0 e w' ∧ r.length ≤ n
set_option maxHeartbeats 8000000 in
set_option maxRecDepth 100000 in
theorem BordersOf_any (w : World) (A : Option Addr) (n c : Nat) (xs : List Int) (hr : Rd w A n (ints xs)) (h1 : 1 ≤ n) (hx : Wd xs) :
    Calls Try.prog 78 #[.slice A n c] w (BdP w n (lastB xs)) := by
  have hl : xs.length = n := by simpa using hr.1
  have hn : n ≤ 100 := by have := hx.2; omega
  have HX := Lib.hid hx.1
  have HG := Lib.hid (lastB_get hl h1)
  have HOK := Lib.hid (ptTo_ok xs n h1)
  have HLB : Hid (lastB xs = (ptTo xs n).getD (n - 1) 0) := Lib.hid (by unfold lastB; rw [hl])
  have hown := own_lit w #[] 0 2 rfl (by omega)
  have HOW := Lib.hid hown
  have HB0 := Lib.hid (below_new w (.cells #[] 2))
  have HR := Lib.hid (hr.alloc (.cells #[] 2))
  clear hl hx hown
  generalize lastB xs = L at *
  go_enter Try.func78, Try.ntmps78
  go_wp2_with fail
  refine (IsWord_small _ _ _ _ xs hr (by omega) HX.out).mono ?_
  rintro e w2 ⟨rfl, rfl⟩
  go_wp2_with fail
  refine (prefixTable_any _ A n c xs HR.out h1 (by omega)).mono ?_
  rintro e w2 ⟨g, c', rfl, ho2, hb2⟩
  have HT := Lib.hid (ownN_base (base' := w.heap.size) ho2 (by simp))
  have HL2 := Lib.hid (ownN_below HOW.out hb2 (Nat.le_refl _))
  have HB2 := Lib.hid (HB0.out.trans (hb2.mono (by simp)))
  clear ho2 hb2
  go_wp2_with fail
  go_loopw [4, 6] (fun q i wr => ∃ (k : Nat) (A3 : Option Addr) (m c3 : Nat) (ys : List Int), k ≤ n ∧ i = .int .i64 k ∧ q = .slice A3 m c3 ∧ m + k ≤ n ∧ Hid ((k = n ∧ ys = []) ∨ ∃ r, ys = (L : Int) :: r) ∧ wr.ownsRow w.heap.size 2 1 (.slice A3 m c3) m (ints ys) ∧ wr.ownsRow w.heap.size 3 1 (.slice (some ⟨g, 0, none⟩) n c') n (ints ((ptTo xs n).map (fun t : Nat => (t : Int)))) ∧ Below w.heap.size w wr) (fun _ i _ => (intOf i).toNat)
  case atStart => exact ⟨n, _, _, _, _, by omega, rfl, rfl, by omega, Lib.hid (.inl ⟨rfl, rfl⟩), HL2.out, HT.out, HB2.out⟩
  case round =>
    clear HL2 HT HB2
    obtain ⟨k, A3, m, c3, ys, hk, rfl, rfl, hmk, HY, ho3, hot, hb3⟩ := hrel
    by_cases hlt : 0 < k
    · have hlt' : (0 : Int) < (k : Int) := by omega
      obtain ⟨t, ht⟩ : ∃ t, t = (ptTo xs n).getD (k - 1) 0 := ⟨_, rfl⟩
      have htk : t ≤ k - 1 := by rw [ht]; exact (HOK.out (k - 1) (by omega)).1
      have hgt : ((ptTo xs n).map (fun t : Nat => (t : Int)))[k - 1]? = some (t : Int) := by
        rw [ht, List.getElem?_map, List.getD_eq_getElem?_getD, List.getElem?_eq_getElem (by rw [ptTo_len]; omega)]; simp
      obtain ⟨g1, hg1, _, _, hct, _⟩ := own_get hot (k := k - 1) (ints_get hgt)
      injection hg1 with hg1
      injection hg1 with hg1
      subst hg1
      have HYN : Hid (∃ r, ys ++ [(t : Int)] = (L : Int) :: r) := Lib.hid (by
        rcases HY.out with ⟨h2, h3⟩ | ⟨r, h3⟩
        · refine ⟨[], ?_⟩
          rw [h3, HLB.out, ht, h2]; rfl
        · exact ⟨r ++ [(t : Int)], by rw [h3]; rfl⟩)
      have hw : IntKind.i64.wrap ((k : Int) - 1) = (k : Int) - 1 := IntWalk.i64_in _ (by omega)
      have htn : ((k : Int) - 1).toNat = k - 1 := by omega
      have hi0 : (0 : Int) ≤ (k : Int) - 1 := by omega
      have hi2 : (k : Int) - 1 < (n : Int) := by omega
      have HO3 := Lib.hid ho3; have HOT := Lib.hid hot; have HB3 := Lib.hid hb3
      clear ho3 hot hb3 ht hgt
      go_wp2_with (at_builtin; go_must (refine wpList_app1g Try.eltI rfl _ _ rfl wr w.heap.size _ m _ (by rfl) HO3.out (.int .i64 (t : Int)) rfl (by rfl) HB3.out.size (by omega) ?_); rintro A4 c4 w4 ho4 hb4 hg4)
      rw [ints_snoc'] at ho4
      have hot4 := outer_keep HOT.out HO3.out (by decide) hg4
      go_roundw
      case rel => exact ⟨t, A4, m + 1, c4, ys ++ [(t : Int)], by omega, rfl, rfl, by omega, Lib.hid (.inr HYN.out), ho4, hot4, HB3.out.trans hb4⟩
      case measure => simp [intOf]; omega
    · obtain rfl : k = 0 := by omega
      obtain ⟨r, hyr⟩ : ∃ r, ys = (L : Int) :: r := by
        rcases HY.out with ⟨h2, _⟩ | h3
        · omega
        · exact h3
      subst hyr
      have hm : m = r.length + 1 := by have h := ho3.1; simp at h; omega
      have HM : Hid (r.reverse.length ≤ n) := Lib.hid (by simp; omega)
      obtain ⟨g4, rfl, _, _, _, _⟩ := own_get ho3 (k := 0) (u := .int .i64 (L : Int)) (by simp)
      have HRV : Hid (((L : Int) :: r).reverse = r.reverse ++ [(L : Int)]) := Lib.hid (by simp)
      have HB3 := Lib.hid hb3
      clear hm hot hb3
      go_wp2_with fail
      refine (reverse_any wr w.heap.size g4 m c3 ((L : Int) :: r) ho3 (by omega)).mono ?_
      rintro e w5 ⟨rfl, ho5, hb5⟩
      rw [HRV.out] at ho5
      go_wp2_with fail
      go_ret2
      exact ⟨r.reverse, ⟨_, m, c3, rfl, ho5, HB3.out.trans hb5⟩, HM.out⟩
/-- A root and its exponent. -/
def RtP (w : World) (rs : List Int) (e0 : Nat) (e : Ending) (w' : World) : Prop := ∃ A n c, e = .returned (.tuple #[.slice A n c, .int .i64 (e0 : Int), .int .i64 0]) ∧ w'.ownsRow w.heap.size 2 1 (.slice A n c) n (ints rs) ∧ Below w.heap.size w w'
set_option maxHeartbeats 8000000 in
set_option maxRecDepth 100000 in
theorem RootOf_any (w : World) (A : Option Addr) (n c : Nat) (xs : List Int) (hr : Rd w A n (ints xs)) (h1 : 1 ≤ n) (hx : Wd xs) (hc : n ≤ c) :
    Calls Try.prog 79 #[.slice A n c] w (RtP w (xs.take (rootLen xs)) (n / rootLen xs)) := by
  have hl : xs.length = n := by simpa using hr.1
  have hn : n ≤ 100 := by have := hx.2; omega
  have HX := Lib.hid hx.1
  have hz : ((n : Int) == 0) = false := beq_eq_false_iff_ne.2 (by omega)
  have hz2 : ¬ n = 0 := by omega
  have hpp := period_pos (w := xs) (by omega)
  obtain ⟨p, hp⟩ : ∃ p, p = period xs := ⟨_, rfl⟩
  have HP := Lib.hid hp
  have hp1 : 1 ≤ p := by rw [hp]; exact hpp.1
  have hpn : p ≤ n := by rw [hp]; omega
  have HRL : Hid (rootLen xs = if n % p = 0 then p else n) := Lib.hid (by unfold rootLen; rw [hl, hp])
  have hp0 : ¬ (p : Int) = 0 := by omega
  have hp0' : ¬ p = 0 := by omega
  have hrem : Int.tmod (n : Int) (p : Int) = ((n % p : Nat) : Int) := by rw [Int.tmod_eq_emod_of_nonneg (by omega)]; omega
  clear hl hx hpp hp
  by_cases h0 : n % p = 0
  · have HRP : Hid (rootLen xs = p) := Lib.hid (by rw [HRL.out, if_pos h0])
    have hne : (((n % p : Nat) : Int) != 0) = false := by simp [h0]
    have hct := fun (w : World) => run_cutH Try.underlying25 Try.szI w A n c p (p : Int) .i64 rfl (by omega)
    have hq : Int.tdiv (n : Int) (p : Int) = ((n / p : Nat) : Int) := by rw [Int.tdiv_eq_ediv_of_nonneg (by omega)]; omega
    have hle : n / p ≤ n := Nat.div_le_self _ _
    have hqw : IntKind.i64.wrap ((n : Int) / (p : Int)) = ((n / p : Nat) : Int) := by rw [← Int.natCast_ediv]; generalize n / p = zq at hle ⊢; exact IntWalk.i64_in _ (by omega)
    have HQW := Lib.hid hqw
    go_enter Try.func79, Try.ntmps79
    go_wp2_with fail
    refine (IsWord_small _ _ _ _ xs hr (by omega) HX.out).mono ?_
    rintro e w2 ⟨rfl, rfl⟩
    go_wp2_with fail
    refine (periodOf_any _ _ _ _ xs hr h1 (by omega)).mono ?_
    rw [← HP.out]
    rintro e w2 ⟨rfl, hb2⟩
    have HT4 : Hid (Rd w2 A p (ints (xs.take p))) := Lib.hid (by have h := (hr.take p (by omega)).below hb2 (Nat.le_refl _); rwa [← List.map_take] at h)
    have HB2 := Lib.hid hb2
    clear hb2
    go_wp2_with fail
    (first
      | (go_region_law (first
          | (go_simp
             go_at_call 161
             refine (clone_any _ _ p c (xs.take p) (by exact HT4.out.drew) (by omega)).mono ?_
             rintro e w5 ⟨A5, n5, c5, rfl, ho5, hb5⟩
             replace hb5 := und1 hb5
             have HO5 := Lib.hid ho5
             have HB5 := Lib.hid (HB2.out.trans (hb5.mono HB2.out.size))
             clear ho5 hb5)))
      | fail)
    all_goals
      go_wp2_with fail
      go_ret3
      exact ⟨A5, n5, c5, by rw [HRP.out]; first | rfl | (rw [← HQW.out]; rfl) | (rw [Nat.div_self (by omega)]; rfl), by rw [HRP.out]; exact ownN_base HO5.out HB2.out.size, HB5.out⟩
  · have HRP : Hid (rootLen xs = n) := Lib.hid (by rw [HRL.out, if_neg h0])
    have hne : (((n % p : Nat) : Int) != 0) = true := by rw [bne_iff_ne]; omega
    have hct := fun (w : World) => run_cutH Try.underlying25 Try.szI w A n c n (n : Int) .i64 rfl (by omega)
    have hq : Int.tdiv (n : Int) (n : Int) = ((n / n : Nat) : Int) := by rw [Int.tdiv_eq_ediv_of_nonneg (by omega)]; omega
    have hle : n / n ≤ n := Nat.div_le_self _ _
    have hqw : IntKind.i64.wrap ((n : Int) / (n : Int)) = ((n / n : Nat) : Int) := by rw [← Int.natCast_ediv]; generalize n / n = zq at hle ⊢; exact IntWalk.i64_in _ (by omega)
    have HQW := Lib.hid hqw
    go_enter Try.func79, Try.ntmps79
    go_wp2_with fail
    refine (IsWord_small _ _ _ _ xs hr (by omega) HX.out).mono ?_
    rintro e w2 ⟨rfl, rfl⟩
    go_wp2_with fail
    refine (periodOf_any _ _ _ _ xs hr h1 (by omega)).mono ?_
    rw [← HP.out]
    rintro e w2 ⟨rfl, hb2⟩
    have HT4 : Hid (Rd w2 A n (ints (xs.take n))) := Lib.hid (by have h := (hr.take n (by omega)).below hb2 (Nat.le_refl _); rwa [← List.map_take] at h)
    have HB2 := Lib.hid hb2
    clear hb2
    go_wp2_with fail
    (first
      | (go_region_law (first
          | (go_simp
             go_at_call 161
             refine (clone_any _ _ n c (xs.take n) (by exact HT4.out.drew) (by omega)).mono ?_
             rintro e w5 ⟨A5, n5, c5, rfl, ho5, hb5⟩
             replace hb5 := und1 hb5
             have HO5 := Lib.hid ho5
             have HB5 := Lib.hid (HB2.out.trans (hb5.mono HB2.out.size))
             clear ho5 hb5)))
      | fail)
    all_goals
      go_wp2_with fail
      go_ret3
      exact ⟨A5, n5, c5, by rw [HRP.out]; first | rfl | (rw [← HQW.out]; rfl) | (rw [Nat.div_self (by omega)]; rfl), by rw [HRP.out]; exact ownN_base HO5.out HB2.out.size, HB5.out⟩
end Go.Proofs.Ytbecofpklndpaaa
