/- FromDigits and SetNumber: the reference's functions and the program's give the same list and code. -/
import Derived.Test.YtdpkcnjoklnoeaaJoin
namespace Go.Proofs.Ytdpkcnjoklnoeaa
open Go.RowKit Limb

def fdNum (xs : List Int) (b : Int) : List Int × Int :=
  if inB b 2 1000000 = true ∧ allIn xs 0 (b - 1) = true then (if xs.length ≤ 800 then (fitOr (joinVal b.toNat xs), fitCode (joinVal b.toNat xs)) else ([], 5)) else ([], 2)
theorem fdNum_ok {xs : List Int} {b : Int} (h1 : inB b 2 1000000 = true) (h2 : allIn xs 0 (b - 1) = true) (h3 : xs.length ≤ 800) : fdNum xs b = (fitOr (joinVal b.toNat xs), fitCode (joinVal b.toNat xs)) := by simp [fdNum, h1, h2, h3]
theorem fdNum_full {xs : List Int} {b : Int} (h1 : inB b 2 1000000 = true) (h2 : allIn xs 0 (b - 1) = true) (h3 : ¬ xs.length ≤ 800) : fdNum xs b = ([], 5) := by simp only [fdNum, if_pos (And.intro h1 h2), if_neg h3]
theorem fdNum_range {xs : List Int} {b : Int} (h : ¬ (inB b 2 1000000 = true ∧ allIn xs 0 (b - 1) = true)) : fdNum xs b = ([], 2) := by simp only [fdNum, if_neg h]
theorem fdNum_len (xs : List Int) (b : Int) : (fdNum xs b).1.length ≤ 1000000 := by
  have := fitOr_len (joinVal b.toNat xs)
  simp only [fdNum]
  split
  · split
    · simp only; omega
    · simp
  · simp

set_option maxHeartbeats 1000000 in
theorem specFromDigits_any (w : World) (A : Option Addr) (n c : Nat) (xs : List Int) (hr : Rd w A n (ints xs)) (hn : n ≤ 1099511627776) (b : Int) :
    Calls Try.prog 21 #[.slice A n c, .int .i64 b] w (RetSI w 2 (ints (fdNum xs b).1) (fdNum xs b).2) := by
  have HL : Hid (xs.length = n) := Lib.hid (by simpa using hr.1)
  by_cases hb : inB b 2 1000000 = true
  · have hb' := inB_true.1 hb
    have hb0 := hb'.1
    have hb1 := hb'.2
    have HBB := Lib.hid hb
    clear hb'
    go_enter Try.func21, Try.ntmps21
    go_wp2_with (go_at_call 48; refine (l00In_any _ _ _ _).mono ?_; rintro e w' ⟨rfl, rfl⟩)
    clear hb
    go_loopw [6] (fun q wr => ∃ k : Nat, k ≤ n ∧ q = .int .i64 k ∧ Hid (allIn (xs.take k) 0 (b - 1) = true) ∧ wr = w) (fun q _ => n - (intOf q).toNat)
    case atStart => exact ⟨0, Nat.zero_le _, rfl, Lib.hid (by simp [allIn]), rfl⟩
    case round =>
      obtain ⟨k, hk, rfl, hall, rfl⟩ := hrel
      by_cases h1 : k < n
      · obtain ⟨x, hx⟩ := get_some (xs := xs) (k := k) (by rw [HL.out]; omega)
        obtain ⟨bb, off, rfl, hbk, hcx⟩ := hr.at_ (ints_get hx)
        have HX := Lib.hid hx
        clear hx
        by_cases hin : inB x 0 (b - 1) = true
        · go_wp2_with (go_at_call 48; refine (l00In_any _ _ _ _).mono ?_; rintro e w' ⟨rfl, rfl⟩)
          go_roundw
          case rel => exact ⟨k + 1, by omega, by go_num, Lib.hid (allIn_take_step hall.out HX.out hin), by trivial⟩
          case measure => simp [intOf]; omega
        · have hin' : inB x 0 (b - 1) = false := by simpa using hin
          clear hin
          go_wp2_with (go_at_call 48; refine (l00In_any _ _ _ _).mono ?_; rintro e w' ⟨rfl, rfl⟩)
          go_ret2
          rw [fdNum_range (fun h => by have := h.2; rw [allIn_out HX.out hin'] at this; cases this)]
          exact ⟨none, 0, 0, rfl, own_nil _ _ _, Below.refl _ _⟩
      · have hall2 := hall.out
        rw [List.take_of_length_le (by rw [HL.out]; omega)] at hall2
        have HA2 := Lib.hid hall2
        have HAL := Lib.hid (allIn_true.1 hall2)
        clear hall2
        by_cases h800 : n ≤ 800
        · go_wp2_with fail
          refine (l02Join_any _ _ _ _ xs hr (by omega) b (by omega) hb1 (fun d hd => by have := HAL.out d hd; omega)).mono ?_
          rintro e w1 ⟨A1, n1, c1, rfl, ho1, hb1'⟩
          have HF := Lib.hid (fdNum_ok HBB.out HA2.out (by rw [HL.out]; omega))
          by_cases hfit : (limbs (joinVal b.toNat xs)).length ≤ 40
          · have hf := fit_yes hfit
            have hfb := hf.2.1
            have HFF := Lib.hid hf
            clear hf hfit
            go_wp2_with fail
            go_ret2
            rw [HF.out, HFF.out.2.2]
            exact ⟨A1, n1, c1, rfl, ho1, hb1'⟩
          · have hf := fit_no hfit
            have hfb := hf.2.1
            have HFF := Lib.hid hf
            clear hf hfit
            go_wp2_with fail
            go_ret2
            rw [HF.out, HFF.out.2.2, HFF.out.1]
            exact ⟨none, 0, 0, rfl, own_nil _ _ _, hb1'⟩
        · go_wp2_with fail
          go_ret2
          rw [fdNum_full HBB.out HA2.out (by rw [HL.out]; omega)]
          exact ⟨none, 0, 0, rfl, own_nil _ _ _, Below.refl _ _⟩
  · have hb' : inB b 2 1000000 = false := by simpa using hb
    have HF := Lib.hid (fdNum_range (xs := xs) (b := b) (fun h => hb h.1))
    clear hb
    go_enter Try.func21, Try.ntmps21
    go_wp2_with (go_at_call 48; refine (l00In_any _ _ _ _).mono ?_; rintro e w' ⟨rfl, rfl⟩)
    go_ret2
    rw [HF.out]
    exact ⟨none, 0, 0, rfl, own_nil _ _ _, Below.refl _ _⟩

set_option maxHeartbeats 1000000 in
theorem implFromDigits_any (w : World) (A : Option Addr) (n c : Nat) (xs : List Int) (hr : Rd w A n (ints xs)) (hn : n ≤ 1099511627776) (b : Int) :
    Calls Try.prog 22 #[.slice A n c, .int .i64 b] w (RetSI w 2 (ints (fdNum xs b).1) (fdNum xs b).2) := by
  have HL : Hid (xs.length = n) := Lib.hid (by simpa using hr.1)
  by_cases hb : inB b 2 1000000 = true
  · have hb' := inB_true.1 hb
    have hb0 := hb'.1
    have hb1 := hb'.2
    clear hb'
    by_cases hall : allIn xs 0 (b - 1) = true
    · have HAL := Lib.hid (allIn_true.1 hall)
      by_cases h800 : n ≤ 800
      · have HF := Lib.hid (fdNum_ok hb hall (by rw [HL.out]; omega))
        go_enter Try.func22, Try.ntmps22
        go_wp2_with (first
          | (go_at_call 59; refine (within_any _ _ _ _).mono ?_; rintro e w' ⟨rfl, rfl⟩)
          | (go_at_call 54; refine (allWithin_any _ _ _ _ _ hr hn _ _).mono ?_; rintro e w' ⟨rfl, rfl⟩))
        refine (fromDigits_any _ _ _ _ xs hr (by omega) b (by omega) hb1 (fun d hd => by have := HAL.out d hd; omega)).mono ?_
        rintro e w1 ⟨A1, n1, c1, rfl, ho1, hb1'⟩
        have hn1 : n1 ≤ 800 := by
          rw [← own_limb_len ho1]
          exact Nat.le_trans (joinVal_len b.toNat (by omega) xs (fun d hd => by have := HAL.out d hd; omega)) (by rw [HL.out]; omega)
        go_wp2_with fail
        refine (limited_any _ _ _ _ _ _ ho1 (by omega)).mono ?_
        rintro e w2 ⟨⟨A2, n2, c2, rfl, ho2⟩, rfl⟩
        go_wp2_with fail
        go_ret2
        rw [HF.out]
        exact ⟨A2, n2, c2, rfl, ho2, hb1'⟩
      · have HF := Lib.hid (fdNum_full hb hall (by rw [HL.out]; omega))
        go_enter Try.func22, Try.ntmps22
        go_wp2_with (first
          | (go_at_call 59; refine (within_any _ _ _ _).mono ?_; rintro e w' ⟨rfl, rfl⟩)
          | (go_at_call 54; refine (allWithin_any _ _ _ _ _ hr hn _ _).mono ?_; rintro e w' ⟨rfl, rfl⟩))
        go_ret2
        rw [HF.out]
        exact ⟨none, 0, 0, rfl, own_nil _ _ _, Below.refl _ _⟩
    · have HF := Lib.hid (fdNum_range (xs := xs) (b := b) (fun h => hall h.2))
      have hall' : allIn xs 0 (b - 1) = false := by simpa using hall
      clear hall
      go_enter Try.func22, Try.ntmps22
      go_wp2_with (first
        | (go_at_call 59; refine (within_any _ _ _ _).mono ?_; rintro e w' ⟨rfl, rfl⟩)
        | (go_at_call 54; refine (allWithin_any _ _ _ _ _ hr hn _ _).mono ?_; rintro e w' ⟨rfl, rfl⟩))
      go_ret2
      rw [HF.out]
      exact ⟨none, 0, 0, rfl, own_nil _ _ _, Below.refl _ _⟩
  · have hb' : inB b 2 1000000 = false := by simpa using hb
    have HF := Lib.hid (fdNum_range (xs := xs) (b := b) (fun h => hb h.1))
    clear hb
    go_enter Try.func22, Try.ntmps22
    go_wp2_with (first
      | (go_at_call 59; refine (within_any _ _ _ _).mono ?_; rintro e w' ⟨rfl, rfl⟩))
    go_ret2
    rw [HF.out]
    exact ⟨none, 0, 0, rfl, own_nil _ _ _, Below.refl _ _⟩

set_option maxHeartbeats 4000000 in
set_option maxRecDepth 100000 in
theorem lawFromDigits (w : World) (A0 : Option Addr) (n0 c0 : Nat) (x0 : List Int) (hr0 : Rd w A0 n0 (ints x0)) (x1 : Int) :
    Calls Try.prog 4 #[.slice A0 n0 c0, .int .i64 x1] w fun e w' => e = .returned (.bool true) ∧ Below w.heap.size w w' := by
  by_cases hbig0 : n0 ≤ 1048576
  rotate_left
  · go_enter Try.func4, Try.ntmps4
    go_wp2_with fail
    go_ret
    exact ⟨rfl, Below.refl _ _⟩
  have hS : ∀ (w : World) (A0 : Option Addr) (n0 c0 : Nat) (h0 : Rd w A0 n0 (ints x0)) (hn0 : n0 ≤ 1099511627776), Calls Try.prog 21 #[.slice A0 n0 c0, .int .i64 x1] w (RetSI w 2 (ints ((fdNum x0 x1).1)) ((fdNum x0 x1).2)) := fun w A0 n0 c0 h0 hn0 => specFromDigits_any w A0 n0 c0 x0 h0 hn0 x1
  have hI : ∀ (w : World) (A0 : Option Addr) (n0 c0 : Nat) (h0 : Rd w A0 n0 (ints x0)) (hn0 : n0 ≤ 1099511627776), Calls Try.prog 22 #[.slice A0 n0 c0, .int .i64 x1] w (RetSI w 2 (ints ((fdNum x0 x1).1)) ((fdNum x0 x1).2)) := fun w A0 n0 c0 h0 hn0 => implFromDigits_any w A0 n0 c0 x0 h0 hn0 x1
  have HRL0 : Hid (((fdNum x0 x1).1).length ≤ 1000000) := Lib.hid (fdNum_len _ _)
  have HS := Lib.hid hS; have HI := Lib.hid hI
  clear hS hI
  generalize (fdNum x0 x1).1 = r0 at HS HI HRL0
  generalize (fdNum x0 x1).2 = r1 at HS HI
  have HXL0 : Hid (x0.length = n0) := Lib.hid (by simpa using hr0.1)
  have HB := Below.refl w.heap.size w
  go_enter Try.func4, Try.ntmps4
  go_wp2_with fail
  refine (toInt64S_any _ _ _ _ x0 (hr0.below HB (Nat.le_refl _)) (by omega)).mono ?_
  rintro e v1 ⟨Ao1, no1, co1, rfl, hoo1, hbv1⟩
  have hno1 : no1 ≤ 1048576 := by have := hoo1.1; simp at this; have := HXL0.out; omega
  replace HB := HB.trans (hbv1.mono HB.size)
  have hrgo1 : Hid (∀ k, (Value.slice Ao1 no1 co1).ownBlock = some k → w.heap.size ≤ k ∧ k < v1.heap.size) := Lib.hid fun k hk => hoo1.lt k hk
  have hszv1 := hbv1.size
  go_wp2_with fail
  refine (HS.out _ _ _ _ (own_rd hoo1) (by omega)).mono ?_
  rintro e v2 ⟨Ao2, no2, co2, rfl, hoo2, hbv2⟩
  have hno2 : no2 ≤ 1000000 := by have := hoo2.1; simp at this; have := HRL0.out; omega
  replace hoo1 := own_below hoo1 hbv2 (Nat.le_refl _)
  replace HB := HB.trans (hbv2.mono HB.size)
  have hrgo2 : Hid (∀ k, (Value.slice Ao2 no2 co2).ownBlock = some k → v1.heap.size ≤ k ∧ k < v2.heap.size) := Lib.hid fun k hk => hoo2.lt k hk
  have hszv2 := hbv2.size
  go_wp2_with fail
  refine (toInt64S_any _ _ _ _ x0 (hr0.below HB (Nat.le_refl _)) (by omega)).mono ?_
  rintro e v3 ⟨Ao3, no3, co3, rfl, hoo3, hbv3⟩
  have hno3 : no3 ≤ 1048576 := by have := hoo3.1; simp at this; have := HXL0.out; omega
  replace hoo1 := own_below hoo1 hbv3 (Nat.le_refl _)
  replace hoo2 := own_below hoo2 hbv3 (Nat.le_refl _)
  replace HB := HB.trans (hbv3.mono HB.size)
  have hrgo3 : Hid (∀ k, (Value.slice Ao3 no3 co3).ownBlock = some k → v2.heap.size ≤ k ∧ k < v3.heap.size) := Lib.hid fun k hk => hoo3.lt k hk
  have hszv3 := hbv3.size
  go_wp2_with fail
  refine (HI.out _ _ _ _ (own_rd hoo3) (by omega)).mono ?_
  rintro e v4 ⟨Ao4, no4, co4, rfl, hoo4, hbv4⟩
  have hno4 : no4 ≤ 1000000 := by have := hoo4.1; simp at this; have := HRL0.out; omega
  replace hoo1 := own_below hoo1 hbv4 (Nat.le_refl _)
  replace hoo2 := own_below hoo2 hbv4 (Nat.le_refl _)
  replace hoo3 := own_below hoo3 hbv4 (Nat.le_refl _)
  replace HB := HB.trans (hbv4.mono HB.size)
  have hrgo4 : Hid (∀ k, (Value.slice Ao4 no4 co4).ownBlock = some k → v3.heap.size ≤ k ∧ k < v4.heap.size) := Lib.hid fun k hk => hoo4.lt k hk
  have hszv4 := hbv4.size
  go_wp2_with fail
  refine (eq_same _ _ _ _ _ (own_rd hoo4) (by omega) _ _ _ (own_rd hoo2)).mono ?_
  rintro e v5 ⟨rfl, hbv5⟩
  replace hoo1 := own_below hoo1 hbv5 (Nat.le_refl _)
  replace hoo2 := own_below hoo2 hbv5 (Nat.le_refl _)
  replace hoo3 := own_below hoo3 hbv5 (Nat.le_refl _)
  replace hoo4 := own_below hoo4 hbv5 (Nat.le_refl _)
  replace HB := HB.trans (hbv5.mono HB.size)
  have hszv5 := hbv5.size
  go_wp2_with fail
  refine (toInt64S_any _ _ _ _ x0 (hr0.below HB (Nat.le_refl _)) (by omega)).mono ?_
  rintro e v6 ⟨Ao5, no5, co5, rfl, hoo5, hbv6⟩
  have hno5 : no5 ≤ 1048576 := by have := hoo5.1; simp at this; have := HXL0.out; omega
  replace hoo1 := own_below hoo1 hbv6 (Nat.le_refl _)
  replace hoo2 := own_below hoo2 hbv6 (Nat.le_refl _)
  replace hoo3 := own_below hoo3 hbv6 (Nat.le_refl _)
  replace hoo4 := own_below hoo4 hbv6 (Nat.le_refl _)
  replace HB := HB.trans (hbv6.mono HB.size)
  have hrgo5 : Hid (∀ k, (Value.slice Ao5 no5 co5).ownBlock = some k → v5.heap.size ≤ k ∧ k < v6.heap.size) := Lib.hid fun k hk => hoo5.lt k hk
  have hszv6 := hbv6.size
  go_wp2_with fail
  refine (eq_same _ _ _ _ _ (own_rd hoo3) (by omega) _ _ _ (own_rd hoo5)).mono ?_
  rintro e v7 ⟨rfl, hbv7⟩
  replace hoo1 := own_below hoo1 hbv7 (Nat.le_refl _)
  replace hoo2 := own_below hoo2 hbv7 (Nat.le_refl _)
  replace hoo3 := own_below hoo3 hbv7 (Nat.le_refl _)
  replace hoo4 := own_below hoo4 hbv7 (Nat.le_refl _)
  replace hoo5 := own_below hoo5 hbv7 (Nat.le_refl _)
  replace HB := HB.trans (hbv7.mono HB.size)
  have hszv7 := hbv7.size
  go_wp2_with fail
  refine (markInt64S_any _ _ _ _ _ _ hoo3 (by omega) (1) (by omega) (by omega)).mono ?_
  rintro e v8 ⟨rfl, hmo3, hgv8⟩
  replace hoo1 := mark_keep hoo1 hgv8 (fun k h1 h2 => by have := hrgo1.out k h1; have := hrgo3.out k h2; omega)
  replace hoo2 := mark_keep hoo2 hgv8 (fun k h1 h2 => by have := hrgo2.out k h1; have := hrgo3.out k h2; omega)
  replace hoo4 := mark_keep hoo4 hgv8 (fun k h1 h2 => by have := hrgo4.out k h1; have := hrgo3.out k h2; omega)
  replace hoo5 := mark_keep hoo5 hgv8 (fun k h1 h2 => by have := hrgo5.out k h1; have := hrgo3.out k h2; omega)
  replace HB := HB.grown hgv8 HB.size (fun k hk => by have := hrgo3.out k hk; omega)
  replace hoo3 := hmo3
  have hszv8 := hgv8.size
  go_wp2_with fail
  refine (eq_same _ _ _ _ _ (own_rd hoo4) (by omega) _ _ _ (own_rd hoo2)).mono ?_
  rintro e v9 ⟨rfl, hbv9⟩
  replace hoo1 := own_below hoo1 hbv9 (Nat.le_refl _)
  replace hoo2 := own_below hoo2 hbv9 (Nat.le_refl _)
  replace hoo3 := own_below hoo3 hbv9 (Nat.le_refl _)
  replace hoo4 := own_below hoo4 hbv9 (Nat.le_refl _)
  replace hoo5 := own_below hoo5 hbv9 (Nat.le_refl _)
  replace HB := HB.trans (hbv9.mono HB.size)
  have hszv9 := hbv9.size
  go_wp2_with fail
  refine (markInt64S_any _ _ _ _ _ _ hoo4 (by omega) (1) (by omega) (by omega)).mono ?_
  rintro e v10 ⟨rfl, hmo4, hgv10⟩
  replace hoo1 := mark_keep hoo1 hgv10 (fun k h1 h2 => by have := hrgo1.out k h1; have := hrgo4.out k h2; omega)
  replace hoo2 := mark_keep hoo2 hgv10 (fun k h1 h2 => by have := hrgo2.out k h1; have := hrgo4.out k h2; omega)
  replace hoo3 := mark_keep hoo3 hgv10 (fun k h1 h2 => by have := hrgo3.out k h1; have := hrgo4.out k h2; omega)
  replace hoo5 := mark_keep hoo5 hgv10 (fun k h1 h2 => by have := hrgo5.out k h1; have := hrgo4.out k h2; omega)
  replace HB := HB.grown hgv10 HB.size (fun k hk => by have := hrgo4.out k hk; omega)
  replace hoo4 := hmo4
  have hszv10 := hgv10.size
  go_wp2_with fail
  refine (heldInt64S_any _ _ _ _ (1) (own_rd hoo4) (by omega) (by omega) (by omega)).mono ?_
  rintro e v11 ⟨rfl, hbv11⟩
  replace hoo1 := own_below hoo1 hbv11 (Nat.le_refl _)
  replace hoo2 := own_below hoo2 hbv11 (Nat.le_refl _)
  replace hoo3 := own_below hoo3 hbv11 (Nat.le_refl _)
  replace hoo4 := own_below hoo4 hbv11 (Nat.le_refl _)
  replace hoo5 := own_below hoo5 hbv11 (Nat.le_refl _)
  replace HB := HB.trans (hbv11.mono HB.size)
  have hszv11 := hbv11.size
  go_wp2_with fail
  refine (toInt64S_any _ _ _ _ x0 (hr0.below HB (Nat.le_refl _)) (by omega)).mono ?_
  rintro e v12 ⟨Ao6, no6, co6, rfl, hoo6, hbv12⟩
  have hno6 : no6 ≤ 1048576 := by have := hoo6.1; simp at this; have := HXL0.out; omega
  replace hoo1 := own_below hoo1 hbv12 (Nat.le_refl _)
  replace hoo2 := own_below hoo2 hbv12 (Nat.le_refl _)
  replace hoo3 := own_below hoo3 hbv12 (Nat.le_refl _)
  replace hoo4 := own_below hoo4 hbv12 (Nat.le_refl _)
  replace hoo5 := own_below hoo5 hbv12 (Nat.le_refl _)
  replace HB := HB.trans (hbv12.mono HB.size)
  have hrgo6 : Hid (∀ k, (Value.slice Ao6 no6 co6).ownBlock = some k → v11.heap.size ≤ k ∧ k < v12.heap.size) := Lib.hid fun k hk => hoo6.lt k hk
  have hszv12 := hbv12.size
  go_wp2_with fail
  refine (HI.out _ _ _ _ (own_rd hoo6) (by omega)).mono ?_
  rintro e v13 ⟨Ao7, no7, co7, rfl, hoo7, hbv13⟩
  have hno7 : no7 ≤ 1000000 := by have := hoo7.1; simp at this; have := HRL0.out; omega
  replace hoo1 := own_below hoo1 hbv13 (Nat.le_refl _)
  replace hoo2 := own_below hoo2 hbv13 (Nat.le_refl _)
  replace hoo3 := own_below hoo3 hbv13 (Nat.le_refl _)
  replace hoo4 := own_below hoo4 hbv13 (Nat.le_refl _)
  replace hoo5 := own_below hoo5 hbv13 (Nat.le_refl _)
  replace hoo6 := own_below hoo6 hbv13 (Nat.le_refl _)
  replace HB := HB.trans (hbv13.mono HB.size)
  have hrgo7 : Hid (∀ k, (Value.slice Ao7 no7 co7).ownBlock = some k → v12.heap.size ≤ k ∧ k < v13.heap.size) := Lib.hid fun k hk => hoo7.lt k hk
  have hszv13 := hbv13.size
  go_wp2_with fail
  refine (eq_same _ _ _ _ _ (own_rd hoo7) (by omega) _ _ _ (own_rd hoo2)).mono ?_
  rintro e v14 ⟨rfl, hbv14⟩
  replace hoo1 := own_below hoo1 hbv14 (Nat.le_refl _)
  replace hoo2 := own_below hoo2 hbv14 (Nat.le_refl _)
  replace hoo3 := own_below hoo3 hbv14 (Nat.le_refl _)
  replace hoo4 := own_below hoo4 hbv14 (Nat.le_refl _)
  replace hoo5 := own_below hoo5 hbv14 (Nat.le_refl _)
  replace hoo6 := own_below hoo6 hbv14 (Nat.le_refl _)
  replace hoo7 := own_below hoo7 hbv14 (Nat.le_refl _)
  replace HB := HB.trans (hbv14.mono HB.size)
  have hszv14 := hbv14.size
  go_wp2_with fail
  refine (heldInt64S_any _ _ _ _ (1) (own_rd hoo4) (by omega) (by omega) (by omega)).mono ?_
  rintro e v15 ⟨rfl, hbv15⟩
  replace hoo1 := own_below hoo1 hbv15 (Nat.le_refl _)
  replace hoo2 := own_below hoo2 hbv15 (Nat.le_refl _)
  replace hoo3 := own_below hoo3 hbv15 (Nat.le_refl _)
  replace hoo4 := own_below hoo4 hbv15 (Nat.le_refl _)
  replace hoo5 := own_below hoo5 hbv15 (Nat.le_refl _)
  replace hoo6 := own_below hoo6 hbv15 (Nat.le_refl _)
  replace hoo7 := own_below hoo7 hbv15 (Nat.le_refl _)
  replace HB := HB.trans (hbv15.mono HB.size)
  have hszv15 := hbv15.size
  go_wp2_with fail
  go_ret
  exact ⟨rfl, HB⟩
end Go.Proofs.Ytdpkcnjoklnoeaa
