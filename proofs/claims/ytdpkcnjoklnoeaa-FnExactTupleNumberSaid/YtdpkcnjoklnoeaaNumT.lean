/- TupleNumber: the reference's function and the program's give the same list and code. -/
import Derived.Test.YtdpkcnjoklnoeaaNumL
namespace Go.Proofs.Ytdpkcnjoklnoeaa
open Go.RowKit Limb

theorem Rd.take {w : World} {A : Option Addr} {n k : Nat} {vs : List Value} (h : Rd w A n vs) (hk : k ≤ n) : Rd w A k (vs.take k) := by
  obtain ⟨h1, h2⟩ := h
  refine ⟨by simp; omega, fun hp => ?_⟩
  obtain ⟨b, off, e, hb, hc⟩ := h2 (by omega)
  refine ⟨b, off, e, hb, fun j u hj => hc j u ?_⟩
  rw [List.getElem?_take] at hj
  split at hj
  · exact hj
  · cases hj
theorem RdL.take {w : World} {A : Option Addr} {n k : Nat} {xss : List (List Int)} (h : RdL w A n xss) (hk : k ≤ n) : RdL w A k (xss.take k) := by
  obtain ⟨vs, h1, h2, h3⟩ := h
  refine ⟨vs.take k, h1.take hk, by simp [h2], fun i v xs hv hx => ?_⟩
  rw [List.getElem?_take] at hv hx
  split at hv
  · rename_i hi
    rw [if_pos hi] at hx
    exact h3 i v xs hv hx
  · cases hv
def tupnNum (xss : List (List Int)) : List Int × Int :=
  if allNat xss = true then (if inB xss.length 1 8 = true then tpRes (tpv 0 ((xss.map natOf).getLastD 0) (xss.map natOf).dropLast) else ([], 2)) else ([], 1)
theorem tupn_ok {Xs : List Nat} {m X : Nat} (h : allNat (Xs.map limbs) = true) (hl : Xs.length = m + 1) (h8 : m + 1 ≤ 8) (hX : Xs[m]? = some X) : tupnNum (Xs.map limbs) = tpRes (tpv 0 X (Xs.take m)) := by
  have e1 : inB ((Xs.map limbs).length : Int) 1 8 = true := by rw [inB_true]; simp; omega
  have e2 : Xs.getLastD 0 = X := by rw [List.getLastD_eq_getLast?, List.getLast?_eq_getElem?, hl, Nat.add_sub_cancel, hX]; rfl
  have e3 : Xs.dropLast = Xs.take m := by rw [List.dropLast_eq_take, hl]; rfl
  simp only [tupnNum, if_pos h, if_pos e1, natOf_map, e2, e3]
theorem tupn_range {xss : List (List Int)} (h : allNat xss = true) (h8 : inB xss.length 1 8 = false) : tupnNum xss = ([], 2) := by simp [tupnNum, h, h8]
theorem tupn_bad {xss : List (List Int)} (h : allNat xss = false) : tupnNum xss = ([], 1) := by simp [tupnNum, h]
theorem tupnNum_len (xss : List (List Int)) : (tupnNum xss).1.length ≤ 1000000 := by
  by_cases h : allNat xss = true
  · by_cases h8 : inB xss.length 1 8 = true
    · obtain ⟨Xs, rfl, hX⟩ := allNat_limbs h
      have hb := inB_true.1 h8
      simp at hb
      obtain ⟨m, hm⟩ : ∃ m, Xs.length = m + 1 := ⟨Xs.length - 1, by omega⟩
      obtain ⟨X, hx⟩ := get_some (xs := Xs) (k := m) (by omega)
      rw [tupn_ok h hm (by omega) hx]
      exact tpRes_len (hX X (List.mem_of_getElem? hx))
    · rw [tupn_range h (by simpa using h8)]; simp
  · rw [tupn_bad (by simpa using h)]; simp

set_option maxHeartbeats 400000 in
theorem sizeL_any (w : World) (A : Option Addr) (n c : Nat) : Calls Try.prog 79 #[.slice A n c] w fun e w' => e = .returned (.int .i64 n) ∧ w = w' := by
  go_enter Try.func79, Try.ntmps79
  go_wp2_with fail
  go_ret
  exact ⟨rfl, rfl⟩

set_option maxHeartbeats 2000000 in
theorem implTupleNumber_any (w : World) (A : Option Addr) (n c : Nat) (xss : List (List Int)) (hr : RdL w A n xss) (hn : n ≤ 1000000000) (hc : n ≤ c) :
    Calls Try.prog 40 #[.slice A n c] w (RetSI w 2 (ints (tupnNum xss).1) (tupnNum xss).2) := by
  have HLL : Hid (xss.length = n) := Lib.hid hr.len
  by_cases hN : allNat xss = true
  · by_cases h8 : inB n 1 8 = true
    · have hb8 := inB_true.1 h8
      obtain ⟨Xs, rfl, hX⟩ := allNat_limbs hN
      obtain ⟨m, rfl⟩ : ∃ m, n = m + 1 := ⟨n - 1, by omega⟩
      have HL : Hid (Xs.length = m + 1) := Lib.hid (by have := HLL.out; simpa using this)
      obtain ⟨xs, hx⟩ := get_some (xs := Xs.map limbs) (k := m) (by simp; rw [HL.out]; omega)
      obtain ⟨b, off, A', n', c', rfl, hbk, hcx, hn', hr'⟩ := hr.at_ hx
      obtain ⟨x, hxx, rfl⟩ := map_get hx
      have HF := Lib.hid (tupn_ok hN HL.out (by omega) hxx)
      have hx40 := hX x (List.mem_of_getElem? hxx)
      have hn'4 : n' ≤ 40 := by have h := hr'.1; simp at h; omega
      have hrt := hr.take (k := m) (by omega)
      rw [← List.map_take] at hrt
      have HX : Hid (∀ X ∈ Xs.take m, (limbs X).length ≤ 40) := Lib.hid (fun X h => hX X (List.mem_of_mem_take h))
      have hnil : Rd w none 0 (ints (limbs 0)) := by rw [limbs_zero]; exact Rd.nil _ _
      have hm8 : m ≤ 8 := by omega
      have q1 : ((m + 1 : Nat) : Int) - 1 = m := by omega
      have q2 : (m : Int) + 1 - 1 = m := by omega
      have h8' : inB ((m : Int) + 1) 1 8 = true := h8
      have hkn : m < m + 1 := by omega
      have hmc : m ≤ c := by omega
      have hk0 : (0 : Int) ≤ (m : Int) := by omega
      have hk1 : (m : Int) < (m : Int) + 1 := by omega
      have hk2 : (m : Int) ≤ (m : Int) + 1 := by omega
      have hk3 : (m : Int) ≤ (c : Int) := by omega
      clear hx hxx hX hb8
      go_enter Try.func40, Try.ntmps40
      go_wp2_with (first
        | (go_at_call 71; refine (naturals_any _ _ _ _ _ hr hn).mono ?_; rintro e w' ⟨rfl, rfl⟩)
        | (go_at_call 79; refine (sizeL_any _ _ _ _).mono ?_; rintro e w' ⟨rfl, rfl⟩)
        | (go_at_call 59; refine (within_any _ _ _ _).mono ?_; rintro e w' ⟨rfl, rfl⟩))
      go_region_held3 (fun w' => w'.cell? ⟨b, off + m, none⟩ = some (.slice A' n' c')) (assumption) (first
        | (go_at_call 77
           refine (tupleNumber_any _ _ _ _ x (by exact hr') hn'4 _ _ _ 0 (by exact hnil) (by omega) _ _ _ (Xs.take m) (by exact hrt) hm8 HX.out).mono ?_
           rintro e w3 ⟨A3, n3, c3, rfl, ho3, hb3⟩
           (try replace hb3 := below_undrew hb3)
           have hcx := (hb3.cell (p := ⟨b, off + m, none⟩) hbk).trans hcx))
      go_wp2_with fail
      go_ret2
      rw [HF.out]
      exact ⟨A3, n3, c3, rfl, ho3, hb3⟩
    · have h8' : inB n 1 8 = false := by simpa using h8
      have HF := Lib.hid (tupn_range hN (by rw [HLL.out]; exact h8'))
      clear h8
      go_enter Try.func40, Try.ntmps40
      go_wp2_with (first
        | (go_at_call 71; refine (naturals_any _ _ _ _ _ hr hn).mono ?_; rintro e w' ⟨rfl, rfl⟩)
        | (go_at_call 79; refine (sizeL_any _ _ _ _).mono ?_; rintro e w' ⟨rfl, rfl⟩)
        | (go_at_call 59; refine (within_any _ _ _ _).mono ?_; rintro e w' ⟨rfl, rfl⟩))
      go_ret2
      rw [HF.out]
      exact ⟨none, 0, 0, rfl, own_nil _ _ _, Below.refl _ _⟩
  · have hN' : allNat xss = false := by simpa using hN
    have HF := Lib.hid (tupn_bad hN')
    clear hN
    go_enter Try.func40, Try.ntmps40
    go_wp2_with (go_at_call 71; refine (naturals_any _ _ _ _ _ hr hn).mono ?_; rintro e w' ⟨rfl, rfl⟩)
    go_ret2
    rw [HF.out]
    exact ⟨none, 0, 0, rfl, own_nil _ _ _, Below.refl _ _⟩

set_option maxHeartbeats 2000000 in
theorem specTupleNumber_any (w : World) (A : Option Addr) (n c : Nat) (xss : List (List Int)) (hr : RdL w A n xss) (hn : n ≤ 1000000000) (_hc : n ≤ c) :
    Calls Try.prog 39 #[.slice A n c] w (RetSI w 2 (ints (tupnNum xss).1) (tupnNum xss).2) := by
  have HLL : Hid (xss.length = n) := Lib.hid hr.len
  by_cases hN : allNat xss = true
  · by_cases h8 : inB n 1 8 = true
    · have hb8 := inB_true.1 h8
      obtain ⟨Xs, rfl, hX⟩ := allNat_limbs hN
      obtain ⟨m, rfl⟩ : ∃ m, n = m + 1 := ⟨n - 1, by omega⟩
      have HL : Hid (Xs.length = m + 1) := Lib.hid (by have := HLL.out; simpa using this)
      obtain ⟨xs, hx⟩ := get_some (xs := Xs.map limbs) (k := m) (by simp; rw [HL.out]; omega)
      obtain ⟨b, off, A', n', c', hA, hbk, hcx, hn', hr'⟩ := hr.at_ hx
      obtain ⟨X, hxx, rfl⟩ := map_get hx
      have HF := Lib.hid (tupn_ok hN HL.out (by omega) hxx)
      have hx40 := hX X (List.mem_of_getElem? hxx)
      have hn'4 : n' ≤ 40 := by have h := hr'.1; simp at h; omega
      have HX := Lib.hid hX
      have hm8 : m ≤ 8 := by omega
      have q1 : ((m + 1 : Nat) : Int) - 1 = m := by omega
      have q2 : (m : Int) + 1 - 1 = m := by omega
      have q3 : (m : Int) + 1 - 2 = (m : Int) - 1 := by omega
      have h8' : inB ((m : Int) + 1) 1 8 = true := h8
      have hkn : m < m + 1 := by omega
      have HXL : Hid ((limbs X).length = n') := Lib.hid (by simpa using hr'.1)
      clear hx hxx hX hb8
      subst hA
      go_enter Try.func39, Try.ntmps39
      go_wp2_with (first
        | (go_at_call 76; refine (l04Naturals_any _ _ _ _ _ hr hn).mono ?_; rintro e w' ⟨rfl, rfl⟩)
        | (go_at_call 48; refine (l00In_any _ _ _ _).mono ?_; rintro e w' ⟨rfl, rfl⟩)
        | (go_at_call 78; refine (l00Own_any _ _ _ _ _ hr' (by omega)).mono ?_; rintro e w2 ⟨A2, n2, c2, rfl, ho2, hb2⟩; (have hn2 : n2 ≤ 40 := by rw [← own_limb_len ho2, HXL.out]; exact hn'4)))
      clear hN
      go_loopw [4, 5] (fun v i wr => ∃ (j m' N : Nat), i = .int .i64 ((j : Int) - 1) ∧ j ≤ m ∧ m' ≤ 40 ∧ Hid (tpv 0 X ((Xs.take m).drop j) = some N) ∧ wr.ownsRow w.heap.size 2 1 v m' (ints (limbs N)) ∧ Below w.heap.size w wr) (fun _ i _ => (intOf i + 1).toNat)
      case atStart => exact ⟨m, n2, X, by first | rfl | go_num, by omega, hn2, Lib.hid (by rw [List.drop_of_length_le (by simp; omega)]; rfl), ho2, hb2⟩
      case round =>
        obtain ⟨j, m', N, rfl, hj, hm, HG, hown, hb⟩ := hrel
        clear hcx hbk hr' hn' ho2 hb2
        obtain ⟨Ao, co, rfl, hco, _⟩ := own_form hown
        rcases Nat.eq_zero_or_pos j with h0 | h0
        · subst h0
          go_wp2_with fail
          go_ret2
          have e := HG.out
          rw [List.drop_zero] at e
          rw [HF.out, e]
          exact ⟨Ao, m', co, rfl, hown, hb⟩
        · obtain ⟨k, rfl⟩ : ∃ k, j = k + 1 := ⟨j - 1, by omega⟩
          have ek : (((k + 1 : Nat) : Int) - 1) = (k : Int) := by omega
          rw [ek]
          clear ek
          obtain ⟨xs, hx⟩ := get_some (xs := Xs.map limbs) (k := k) (by simp; rw [HL.out]; omega)
          obtain ⟨b1, off1, A', n', c', hA, hbk, hcx, hn', hr'⟩ := hr.at_ hx
          obtain ⟨x, hxx, rfl⟩ := map_get hx
          cases hA
          have hcx1 := (hb.cell (p := ⟨b, off + k, none⟩) hbk).trans hcx
          have hx40 := HX.out x (List.mem_of_getElem? hxx)
          have hn'4 : n' ≤ 40 := by have h := hr'.1; simp at h; omega
          have HSTEP := Lib.hid (tpv_step (P := 0) (Xs := Xs.take m) (j := k) (x := x) (by rw [List.getElem?_take, if_pos (by omega)]; exact hxx) HG.out)
          have HN40 : Hid ((limbs N).length ≤ 40) := Lib.hid (by rw [own_limb_len hown]; exact hm)
          have HPP := Lib.hid (len_pair_plus hx40 HN40.out (P := 0) (by omega))
          have hkn' : k < m + 1 := by omega
          clear hx hxx hcx
          go_wp2_with fail
          refine (l04Pair_any _ _ _ _ x (hr'.below hb (Nat.le_refl _)) (by omega) _ _ _ N (own_rd hown) (by omega)).mono ?_
          rintro e w4 ⟨A4, n4, c4, rfl, ho4, hb4⟩
          have hn4 : n4 ≤ 2000 := own_len_le ho4 HPP.out
          have HB4 := Lib.hid (hb.trans (hb4.mono hb.size))
          have HO4 := Lib.hid (own_base ho4 hb.size)
          have HL4 := Lib.hid (own_limb_len ho4)
          by_cases h40 : 40 < n4
          · go_wp2_with fail
            go_ret2
            rw [HF.out, tpv_none (j := k) (by rw [HSTEP.out, Nat.add_zero, HL4.out, if_pos h40])]
            exact ⟨none, 0, 0, rfl, own_nil _ _ _, HB4.out⟩
          · go_wp2_with fail
            go_roundw
            case rel => exact ⟨k, n4, pairVal x N, rfl, by omega, by omega, Lib.hid (by rw [HSTEP.out, Nat.add_zero, HL4.out, if_neg h40]), HO4.out, HB4.out⟩
            case measure => simp only [intOf]; omega
    · have h8' : inB n 1 8 = false := by simpa using h8
      have HF := Lib.hid (tupn_range hN (by rw [HLL.out]; exact h8'))
      clear h8
      go_enter Try.func39, Try.ntmps39
      go_wp2_with (first
        | (go_at_call 76; refine (l04Naturals_any _ _ _ _ _ hr hn).mono ?_; rintro e w' ⟨rfl, rfl⟩)
        | (go_at_call 48; refine (l00In_any _ _ _ _).mono ?_; rintro e w' ⟨rfl, rfl⟩))
      go_ret2
      rw [HF.out]
      exact ⟨none, 0, 0, rfl, own_nil _ _ _, Below.refl _ _⟩
  · have hN' : allNat xss = false := by simpa using hN
    have HF := Lib.hid (tupn_bad hN')
    clear hN
    go_enter Try.func39, Try.ntmps39
    go_wp2_with (go_at_call 76; refine (l04Naturals_any _ _ _ _ _ hr hn).mono ?_; rintro e w' ⟨rfl, rfl⟩)
    go_ret2
    rw [HF.out]
    exact ⟨none, 0, 0, rfl, own_nil _ _ _, Below.refl _ _⟩

set_option maxHeartbeats 8000000 in
set_option maxRecDepth 100000 in
theorem lawTupleNumber (w : World) (A0 : Option Addr) (n0 c0 : Nat) (x0 : List (List Int)) (hw0 : RdW w A0 n0 x0) (hnn0 : n0 ≤ 9223372036854775807) :
    Calls Try.prog 11 #[.slice A0 n0 c0] w fun e w' => e = .returned (.bool true) ∧ Below w.heap.size w w' := by
  have hS : ∀ (w : World) (A0 : Option Addr) (n0 c0 : Nat) (h0 : RdL w A0 n0 x0) (hn0 : n0 ≤ 1000000000) (hcp0 : n0 ≤ c0), Calls Try.prog 39 #[.slice A0 n0 c0] w (RetSI w 2 (ints ((tupnNum x0).1)) ((tupnNum x0).2)) := fun w A0 n0 c0 h0 hn0 hcp0 => specTupleNumber_any w A0 n0 c0 x0 h0 (by omega) hcp0
  have hI : ∀ (w : World) (A0 : Option Addr) (n0 c0 : Nat) (h0 : RdL w A0 n0 x0) (hn0 : n0 ≤ 1000000000) (hcp0 : n0 ≤ c0), Calls Try.prog 40 #[.slice A0 n0 c0] w (RetSI w 2 (ints ((tupnNum x0).1)) ((tupnNum x0).2)) := fun w A0 n0 c0 h0 hn0 hcp0 => implTupleNumber_any w A0 n0 c0 x0 h0 (by omega) hcp0
  have HRL0 : Hid (((tupnNum x0).1).length ≤ 1000000) := Lib.hid (tupnNum_len _)
  have HS := Lib.hid hS; have HI := Lib.hid hI
  clear hS hI
  generalize (tupnNum x0).1 = r0 at HS HI HRL0
  generalize (tupnNum x0).2 = r1 at HS HI
  have HXL0 : Hid (x0.length = n0) := Lib.hid hw0.len
  have HB := Below.refl w.heap.size w
  go_enter Try.func11, Try.ntmps11
  go_wp2_with fail
  refine (szInt64SS_any _ _ _ _ x0 hw0 hnn0 _ (by omega) (by omega)).mono ?_
  rintro e v0 ⟨⟨r, rfl, hsz1, hsz2⟩, rfl⟩
  by_cases hrz : r < 0
  · clear hsz1 hsz2
    go_wp2_with fail
    go_ret
    exact ⟨rfl, HB⟩
  have hbig0 : n0 ≤ 1048576 := by have := hsz1 (by omega); omega
  have HTX0 : Hid (tot x0 ≤ 1048576) := Lib.hid (by have := hsz1 (by omega); omega)
  clear hsz1 hsz2
  have hr0 := hw0.rdl (by have := HTX0.out; omega)
  go_wp2_with fail
  refine (toInt64SS_any _ _ _ _ x0 (hr0.below HB (Nat.le_refl _)) (by omega)).mono ?_
  rintro e v1 ⟨Ao1, no1, co1, rfl, hoo1, hbv1⟩
  have hno1 : no1 ≤ 1048576 := by have := hoo1.len; have := HXL0.out; omega
  replace HB := HB.trans (hbv1.mono HB.size)
  have hszv1 := hbv1.size
  go_wp2_with fail
  refine (HS.out _ _ _ _ hoo1.rdl (by omega) hoo1.cap).mono ?_
  rintro e v2 ⟨Ao2, no2, co2, rfl, hoo2, hbv2⟩
  have hno2 : no2 ≤ 1000000 := by have := hoo2.1; simp at this; have := HRL0.out; omega
  replace hoo1 := hoo1.below hbv2 (Nat.le_refl _) (by omega)
  replace HB := HB.trans (hbv2.mono HB.size)
  have hszv2 := hbv2.size
  have hrgo2 : Hid (∀ k, (Value.slice Ao2 no2 co2).ownBlock = some k → v1.heap.size ≤ k ∧ k < v2.heap.size) := Lib.hid fun k hk => hoo2.lt k hk
  go_wp2_with fail
  refine (toInt64SS_any _ _ _ _ x0 (hr0.below HB (Nat.le_refl _)) (by omega)).mono ?_
  rintro e v3 ⟨Ao3, no3, co3, rfl, hoo3, hbv3⟩
  have hno3 : no3 ≤ 1048576 := by have := hoo3.len; have := HXL0.out; omega
  replace hoo1 := hoo1.below hbv3 (Nat.le_refl _) (by omega)
  replace hoo2 := own_below hoo2 hbv3 (Nat.le_refl _)
  replace HB := HB.trans (hbv3.mono HB.size)
  have hszv3 := hbv3.size
  go_wp2_with fail
  refine (HI.out _ _ _ _ hoo3.rdl (by omega) hoo3.cap).mono ?_
  rintro e v4 ⟨Ao4, no4, co4, rfl, hoo4, hbv4⟩
  have hno4 : no4 ≤ 1000000 := by have := hoo4.1; simp at this; have := HRL0.out; omega
  replace hoo1 := hoo1.below hbv4 (Nat.le_refl _) (by omega)
  replace hoo2 := own_below hoo2 hbv4 (Nat.le_refl _)
  replace hoo3 := hoo3.below hbv4 (Nat.le_refl _) (by omega)
  replace HB := HB.trans (hbv4.mono HB.size)
  have hszv4 := hbv4.size
  have hrgo4 : Hid (∀ k, (Value.slice Ao4 no4 co4).ownBlock = some k → v3.heap.size ≤ k ∧ k < v4.heap.size) := Lib.hid fun k hk => hoo4.lt k hk
  go_wp2_with fail
  refine (eq_same _ _ _ _ _ (own_rd hoo4) (by omega) _ _ _ (own_rd hoo2)).mono ?_
  rintro e v5 ⟨rfl, hbv5⟩
  replace hoo1 := hoo1.below hbv5 (Nat.le_refl _) (by omega)
  replace hoo2 := own_below hoo2 hbv5 (Nat.le_refl _)
  replace hoo3 := hoo3.below hbv5 (Nat.le_refl _) (by omega)
  replace hoo4 := own_below hoo4 hbv5 (Nat.le_refl _)
  replace HB := HB.trans (hbv5.mono HB.size)
  have hszv5 := hbv5.size
  go_wp2_with fail
  refine (toInt64SS_any _ _ _ _ x0 (hr0.below HB (Nat.le_refl _)) (by omega)).mono ?_
  rintro e v6 ⟨Ao5, no5, co5, rfl, hoo5, hbv6⟩
  have hno5 : no5 ≤ 1048576 := by have := hoo5.len; have := HXL0.out; omega
  replace hoo1 := hoo1.below hbv6 (Nat.le_refl _) (by omega)
  replace hoo2 := own_below hoo2 hbv6 (Nat.le_refl _)
  replace hoo3 := hoo3.below hbv6 (Nat.le_refl _) (by omega)
  replace hoo4 := own_below hoo4 hbv6 (Nat.le_refl _)
  replace HB := HB.trans (hbv6.mono HB.size)
  have hszv6 := hbv6.size
  go_wp2_with fail
  refine (eqL_same _ _ _ _ _ hoo3.rdl (by omega) _ _ _ hoo5.rdl).mono ?_
  rintro e v7 ⟨rfl, hbv7⟩
  replace hoo1 := hoo1.below hbv7 (Nat.le_refl _) (by omega)
  replace hoo2 := own_below hoo2 hbv7 (Nat.le_refl _)
  replace hoo3 := hoo3.below hbv7 (Nat.le_refl _) (by omega)
  replace hoo4 := own_below hoo4 hbv7 (Nat.le_refl _)
  replace hoo5 := hoo5.below hbv7 (Nat.le_refl _) (by omega)
  replace HB := HB.trans (hbv7.mono HB.size)
  have hszv7 := hbv7.size
  go_wp2_with fail
  have hTv8 : tot x0 ≤ 1048576 := by have := HTX0.out; omega
  refine (markInt64SS_any _ _ _ _ _ _ x0 hoo3 (by omega) (by omega) (1) (by omega) (by omega)).mono ?_
  rintro e v8 ⟨rfl, hmo3, hOv8⟩
  replace hoo1 := hoo1.out hOv8 (by omega)
  replace hoo2 := own_out hoo2 hrgo2.out hOv8 (by omega)
  replace hoo4 := own_out hoo4 hrgo4.out hOv8 (by omega)
  replace hoo5 := hoo5.out hOv8 (by omega)
  replace HB := below_out HB hOv8 (by omega) HB.size
  replace hoo3 := hmo3
  have hszv8 := hOv8.size
  go_wp2_with fail
  refine (eq_same _ _ _ _ _ (own_rd hoo4) (by omega) _ _ _ (own_rd hoo2)).mono ?_
  rintro e v9 ⟨rfl, hbv9⟩
  replace hoo1 := hoo1.below hbv9 (Nat.le_refl _) (by omega)
  replace hoo2 := own_below hoo2 hbv9 (Nat.le_refl _)
  replace hoo3 := hoo3.below hbv9 (Nat.le_refl _) (by omega)
  replace hoo4 := own_below hoo4 hbv9 (Nat.le_refl _)
  replace hoo5 := hoo5.below hbv9 (Nat.le_refl _) (by omega)
  replace HB := HB.trans (hbv9.mono HB.size)
  have hszv9 := hbv9.size
  go_wp2_with fail
  refine (markInt64S_any _ _ _ _ _ _ hoo4 (by omega) (1) (by omega) (by omega)).mono ?_
  rintro e v10 ⟨rfl, hmo4, hgv10⟩
  have hOv10 : Outside v3.heap.size v4.heap.size _ v10 := out_grown hgv10 hrgo4.out
  replace hoo1 := hoo1.out hOv10 (by omega)
  replace hoo2 := own_out hoo2 hrgo2.out hOv10 (by omega)
  replace hoo3 := hoo3.out hOv10 (by omega)
  replace hoo5 := hoo5.out hOv10 (by omega)
  replace HB := below_out HB hOv10 (by omega) HB.size
  replace hoo4 := hmo4
  have hszv10 := hOv10.size
  go_wp2_with fail
  refine (heldInt64S_any _ _ _ _ (1) (own_rd hoo4) (by omega) (by omega) (by omega)).mono ?_
  rintro e v11 ⟨rfl, hbv11⟩
  replace hoo1 := hoo1.below hbv11 (Nat.le_refl _) (by omega)
  replace hoo2 := own_below hoo2 hbv11 (Nat.le_refl _)
  replace hoo3 := hoo3.below hbv11 (Nat.le_refl _) (by omega)
  replace hoo4 := own_below hoo4 hbv11 (Nat.le_refl _)
  replace hoo5 := hoo5.below hbv11 (Nat.le_refl _) (by omega)
  replace HB := HB.trans (hbv11.mono HB.size)
  have hszv11 := hbv11.size
  go_wp2_with fail
  refine (toInt64SS_any _ _ _ _ x0 (hr0.below HB (Nat.le_refl _)) (by omega)).mono ?_
  rintro e v12 ⟨Ao6, no6, co6, rfl, hoo6, hbv12⟩
  have hno6 : no6 ≤ 1048576 := by have := hoo6.len; have := HXL0.out; omega
  replace hoo1 := hoo1.below hbv12 (Nat.le_refl _) (by omega)
  replace hoo2 := own_below hoo2 hbv12 (Nat.le_refl _)
  replace hoo3 := hoo3.below hbv12 (Nat.le_refl _) (by omega)
  replace hoo4 := own_below hoo4 hbv12 (Nat.le_refl _)
  replace hoo5 := hoo5.below hbv12 (Nat.le_refl _) (by omega)
  replace HB := HB.trans (hbv12.mono HB.size)
  have hszv12 := hbv12.size
  go_wp2_with fail
  refine (HI.out _ _ _ _ hoo6.rdl (by omega) hoo6.cap).mono ?_
  rintro e v13 ⟨Ao7, no7, co7, rfl, hoo7, hbv13⟩
  have hno7 : no7 ≤ 1000000 := by have := hoo7.1; simp at this; have := HRL0.out; omega
  replace hoo1 := hoo1.below hbv13 (Nat.le_refl _) (by omega)
  replace hoo2 := own_below hoo2 hbv13 (Nat.le_refl _)
  replace hoo3 := hoo3.below hbv13 (Nat.le_refl _) (by omega)
  replace hoo4 := own_below hoo4 hbv13 (Nat.le_refl _)
  replace hoo5 := hoo5.below hbv13 (Nat.le_refl _) (by omega)
  replace hoo6 := hoo6.below hbv13 (Nat.le_refl _) (by omega)
  replace HB := HB.trans (hbv13.mono HB.size)
  have hszv13 := hbv13.size
  have hrgo7 : Hid (∀ k, (Value.slice Ao7 no7 co7).ownBlock = some k → v12.heap.size ≤ k ∧ k < v13.heap.size) := Lib.hid fun k hk => hoo7.lt k hk
  go_wp2_with fail
  refine (eq_same _ _ _ _ _ (own_rd hoo7) (by omega) _ _ _ (own_rd hoo2)).mono ?_
  rintro e v14 ⟨rfl, hbv14⟩
  replace hoo1 := hoo1.below hbv14 (Nat.le_refl _) (by omega)
  replace hoo2 := own_below hoo2 hbv14 (Nat.le_refl _)
  replace hoo3 := hoo3.below hbv14 (Nat.le_refl _) (by omega)
  replace hoo4 := own_below hoo4 hbv14 (Nat.le_refl _)
  replace hoo5 := hoo5.below hbv14 (Nat.le_refl _) (by omega)
  replace hoo6 := hoo6.below hbv14 (Nat.le_refl _) (by omega)
  replace hoo7 := own_below hoo7 hbv14 (Nat.le_refl _)
  replace HB := HB.trans (hbv14.mono HB.size)
  have hszv14 := hbv14.size
  go_wp2_with fail
  refine (heldInt64S_any _ _ _ _ (1) (own_rd hoo4) (by omega) (by omega) (by omega)).mono ?_
  rintro e v15 ⟨rfl, hbv15⟩
  replace hoo1 := hoo1.below hbv15 (Nat.le_refl _) (by omega)
  replace hoo2 := own_below hoo2 hbv15 (Nat.le_refl _)
  replace hoo3 := hoo3.below hbv15 (Nat.le_refl _) (by omega)
  replace hoo4 := own_below hoo4 hbv15 (Nat.le_refl _)
  replace hoo5 := hoo5.below hbv15 (Nat.le_refl _) (by omega)
  replace hoo6 := hoo6.below hbv15 (Nat.le_refl _) (by omega)
  replace hoo7 := own_below hoo7 hbv15 (Nat.le_refl _)
  replace HB := HB.trans (hbv15.mono HB.size)
  have hszv15 := hbv15.size
  go_wp2_with fail
  go_ret
  exact ⟨rfl, HB⟩

end Go.Proofs.Ytdpkcnjoklnoeaa
