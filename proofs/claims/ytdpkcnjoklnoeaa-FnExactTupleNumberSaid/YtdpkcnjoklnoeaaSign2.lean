/- SignedNumber: the reference's function and the program's give the same list and code. -/
import Derived.Test.YtdpkcnjoklnoeaaSign
namespace Go.Proofs.Ytdpkcnjoklnoeaa
open Go.RowKit Limb

set_option maxHeartbeats 400000 in
theorem l02Fit_any (w : World) (base : Nat) (A : Option Addr) (n c : Nat) (V : Nat) (ho : w.ownsRow base 2 1 (.slice A n c) n (ints (limbs V))) (hn : n ≤ 1099511627776) :
    Calls Try.prog 64 #[.slice A n c] w fun en w' => (∃ A' n' c', en = .returned (.tuple #[.slice A' n' c', .int .i64 (fitCode V)]) ∧ w.ownsRow base 2 1 (.slice A' n' c') n' (ints (fitOr V))) ∧ w = w' := by
  have hl := own_limb_len ho
  by_cases h : n ≤ 40
  · have hf := fit_yes (V := V) (by omega)
    have HF := Lib.hid hf
    clear hf hl
    go_enter Try.func64, Try.ntmps64
    go_wp2_with fail
    go_ret2
    rw [HF.out.1, HF.out.2.2]
    exact ⟨⟨A, n, c, rfl, ho⟩, rfl⟩
  · have hf := fit_no (V := V) (by omega)
    have HF := Lib.hid hf
    clear hf hl
    go_enter Try.func64, Try.ntmps64
    go_wp2_with fail
    go_ret2
    rw [HF.out.1, HF.out.2.2]
    exact ⟨⟨none, 0, 0, rfl, own_nil _ _ _⟩, rfl⟩

theorem own_one (w : World) (e : Nat) : (w.alloc (.cells #[.int .i64 1] e)).ownsRow w.heap.size e 1 (.slice (some ⟨w.heap.size, 0, none⟩) 1 1) 1 (ints (limbs 1)) := by
  have h := own_lit w #[.int .i64 1] 1 e rfl (by omega)
  rwa [show limbs 1 = [1] from limbs_one (x := 1) (by omega) (by omega)]

set_option maxHeartbeats 400000 in
theorem one_any (w : World) : Calls Try.prog 67 #[] w (RetS w 2 (ints (limbs 1))) := by
  have h := own_one w 2
  go_enter Try.func67, Try.ntmps67
  go_wp2_with fail
  go_ret
  exact ⟨_, 1, 1, rfl, h, below_new _ _⟩

def natOf (xs : List Int) : Nat := (val xs).toNat
theorem natOf_limbs (X : Nat) : natOf (limbs X) = X := by simp [natOf, val_limbs]
def signVal (neg : Bool) (X : Nat) : Nat := X + X - (if neg = true then 1 else 0)
def signNum (neg : Bool) (xs : List Int) : List Int × Int :=
  if isNatB xs = true then (if neg = true ∧ natOf xs = 0 then ([], 2) else (fitOr (signVal neg (natOf xs)), fitCode (signVal neg (natOf xs)))) else ([], 1)
theorem signNum_len (neg : Bool) (xs : List Int) : (signNum neg xs).1.length ≤ 1000000 := by
  have := fitOr_len (signVal neg (natOf xs))
  simp only [signNum]
  split
  · split
    · simp
    · simp only; omega
  · simp
theorem limb_double_len {X m n1 : Nat} (h1 : (limbs X).length ≤ m) (h2 : (limbs (X + X)).length = n1) : n1 ≤ 2 * m + 1 := by
  have := limbs_len_add X X; omega
theorem limbs_zero_iff {X n : Nat} (h : (limbs X).length = n) : n = 0 ↔ X = 0 := by
  rw [← h, List.length_eq_zero_iff, limbs_nil]

set_option maxHeartbeats 1000000 in
theorem implSignedNumber_any (w : World) (neg : Bool) (A : Option Addr) (n c : Nat) (xs : List Int) (hr : Rd w A n (ints xs)) (hn : n ≤ 1099511627776) :
    Calls Try.prog 24 #[.bool neg, .slice A n c] w (RetSI w 2 (ints (signNum neg xs).1) (signNum neg xs).2) := by
  by_cases hN : isNatB xs = true
  · obtain ⟨X, rfl, hX40⟩ := isNat_limbs hN
    have HL : Hid ((limbs X).length = n) := Lib.hid (by simpa using hr.1)
    have hn40 : n ≤ 40 := by rw [← HL.out]; exact hX40
    have hz := limbs_zero_iff HL.out
    have HX := Lib.hid hX40
    clear hX40
    cases neg with
    | false =>
      have HF : Hid (signNum false (limbs X) = (fitOr (X + X), fitCode (X + X))) := Lib.hid (by simp [signNum, hN, signVal, natOf_limbs])
      clear hz
      go_enter Try.func24, Try.ntmps24
      go_wp2_with (go_at_call 65; refine (isNatural_any _ _ _ _ _ hr hn).mono ?_; rintro e w' ⟨rfl, rfl⟩)
      refine (add_any _ _ _ _ X hr (by omega) _ _ _ X hr (by omega)).mono ?_
      rintro e w1 ⟨A1, n1, c1, rfl, ho1, hb1⟩
      have hn1 : n1 ≤ 81 := by have := limb_double_len HX.out (own_limb_len ho1); omega
      go_wp2_with fail
      refine (limited_any _ _ _ _ _ _ ho1 (by omega)).mono ?_
      rintro e w2 ⟨⟨A2, n2, c2, rfl, ho2⟩, rfl⟩
      go_wp2_with fail
      go_ret2
      rw [HF.out]
      exact ⟨A2, n2, c2, rfl, ho2, hb1⟩
    | true =>
      rcases Nat.eq_zero_or_pos n with h0 | h0
      · have HF : Hid (signNum true (limbs X) = ([], 2)) := Lib.hid (by simp only [signNum, if_pos hN]; rw [if_pos ⟨trivial, by rw [natOf_limbs]; exact hz.1 h0⟩])
        have b0 : ((n : Int) == 0) = true := by simp; omega
        clear hz h0
        go_enter Try.func24, Try.ntmps24
        go_wp2_with (go_at_call 65; refine (isNatural_any _ _ _ _ _ hr hn).mono ?_; rintro e w' ⟨rfl, rfl⟩)
        refine (add_any _ _ _ _ X hr (by omega) _ _ _ X hr (by omega)).mono ?_
        rintro e w1 ⟨A1, n1, c1, rfl, ho1, hb1⟩
        go_wp2_with fail
        go_ret2
        rw [HF.out]
        exact ⟨none, 0, 0, rfl, own_nil _ _ _, hb1⟩
      · have hXp : X ≠ 0 := fun h => by have := hz.2 h; omega
        have HF : Hid (signNum true (limbs X) = (fitOr (X + X - 1), fitCode (X + X - 1))) := Lib.hid (by simp [signNum, hN, signVal, natOf_limbs, hXp])
        have HXP := Lib.hid hXp
        have b0 : ((n : Int) == 0) = false := by simp; omega
        clear hz hXp
        go_enter Try.func24, Try.ntmps24
        go_wp2_with (go_at_call 65; refine (isNatural_any _ _ _ _ _ hr hn).mono ?_; rintro e w' ⟨rfl, rfl⟩)
        refine (add_any _ _ _ _ X hr (by omega) _ _ _ X hr (by omega)).mono ?_
        rintro e w1 ⟨A1, n1, c1, rfl, ho1, hb1⟩
        have hn1 : n1 ≤ 81 := by have := limb_double_len HX.out (own_limb_len ho1); omega
        go_wp2_with fail
        refine (one_any _).mono ?_
        rintro e w2 ⟨A2, n2, c2, rfl, ho2, hb2⟩
        go_wp2_with fail
        refine (subtract_any _ _ _ _ (X + X) ((own_rd ho1).below hb2 (Nat.le_refl _)) (by omega) _ _ _ 1 (own_rd ho2) (by have := HXP.out; omega)).mono ?_
        rintro e w3 ⟨A3, n3, c3, rfl, ho3, hb3⟩
        have hn3 : n3 ≤ 81 := by
          have h1 := own_limb_len ho3
          have h2 := limbs_len_mono (Nat.sub_le (X + X) 1)
          have h3 := own_limb_len ho1
          omega
        go_wp2_with fail
        refine (limited_any _ _ _ _ _ _ ho3 (by omega)).mono ?_
        rintro e w4 ⟨⟨A4, n4, c4, rfl, ho4⟩, rfl⟩
        go_wp2_with fail
        go_ret2
        rw [HF.out]
        exact ⟨A4, n4, c4, rfl, own_base ho4 (Nat.le_trans hb1.size hb2.size), (hb1.trans (hb2.mono hb1.size)).trans (hb3.mono (Nat.le_trans hb1.size hb2.size))⟩
  · have hN' : isNatB xs = false := by simpa using hN
    have HF : Hid (signNum neg xs = ([], 1)) := Lib.hid (by simp [signNum, hN'])
    clear hN
    go_enter Try.func24, Try.ntmps24
    go_wp2_with (go_at_call 65; refine (isNatural_any _ _ _ _ _ hr hn).mono ?_; rintro e w' ⟨rfl, rfl⟩)
    go_ret2
    rw [HF.out]
    exact ⟨none, 0, 0, rfl, own_nil _ _ _, Below.refl _ _⟩

set_option maxHeartbeats 1000000 in
theorem specSignedNumber_any (w : World) (neg : Bool) (A : Option Addr) (n c : Nat) (xs : List Int) (hr : Rd w A n (ints xs)) (hn : n ≤ 1099511627776) :
    Calls Try.prog 23 #[.bool neg, .slice A n c] w (RetSI w 2 (ints (signNum neg xs).1) (signNum neg xs).2) := by
  by_cases hN : isNatB xs = true
  · obtain ⟨X, rfl, hX40⟩ := isNat_limbs hN
    have HL : Hid ((limbs X).length = n) := Lib.hid (by simpa using hr.1)
    have hn40 : n ≤ 40 := by rw [← HL.out]; exact hX40
    have hz := limbs_zero_iff HL.out
    have HX := Lib.hid hX40
    clear hX40
    cases neg with
    | false =>
      have HF : Hid (signNum false (limbs X) = (fitOr (X + X), fitCode (X + X))) := Lib.hid (by simp [signNum, hN, signVal, natOf_limbs])
      clear hz
      go_enter Try.func23, Try.ntmps23
      go_wp2_with (go_at_call 62; refine (l02Is_any _ _ _ _ _ hr hn).mono ?_; rintro e w' ⟨rfl, rfl⟩)
      refine (l02Add_limbs _ _ _ _ X hr (by omega) _ _ _ X hr (by omega)).mono ?_
      rintro e w1 ⟨A1, n1, c1, rfl, ho1, hb1⟩
      have hn1 : n1 ≤ 81 := by have := limb_double_len HX.out (own_limb_len ho1); omega
      go_wp2_with fail
      refine (l02Fit_any _ _ _ _ _ _ ho1 (by omega)).mono ?_
      rintro e w2 ⟨⟨A2, n2, c2, rfl, ho2⟩, rfl⟩
      go_wp2_with fail
      go_ret2
      rw [HF.out]
      exact ⟨A2, n2, c2, rfl, ho2, hb1⟩
    | true =>
      rcases Nat.eq_zero_or_pos n with h0 | h0
      · have HF : Hid (signNum true (limbs X) = ([], 2)) := Lib.hid (by simp only [signNum, if_pos hN]; rw [if_pos ⟨trivial, by rw [natOf_limbs]; exact hz.1 h0⟩])
        have b0 : ((n : Int) == 0) = true := by simp; omega
        clear hz h0
        go_enter Try.func23, Try.ntmps23
        go_wp2_with (go_at_call 62; refine (l02Is_any _ _ _ _ _ hr hn).mono ?_; rintro e w' ⟨rfl, rfl⟩)
        go_ret2
        rw [HF.out]
        exact ⟨none, 0, 0, rfl, own_nil _ _ _, Below.refl _ _⟩
      · have hXp : X ≠ 0 := fun h => by have := hz.2 h; omega
        have HF : Hid (signNum true (limbs X) = (fitOr (X + X - 1), fitCode (X + X - 1))) := Lib.hid (by simp [signNum, hN, signVal, natOf_limbs, hXp])
        have HXP := Lib.hid hXp
        have b0 : ((n : Int) == 0) = false := by simp; omega
        clear hz hXp
        go_enter Try.func23, Try.ntmps23
        go_wp2_with (go_at_call 62; refine (l02Is_any _ _ _ _ _ hr hn).mono ?_; rintro e w' ⟨rfl, rfl⟩)
        refine (l02Add_limbs _ _ _ _ X hr (by omega) _ _ _ X hr (by omega)).mono ?_
        rintro e w1 ⟨A1, n1, c1, rfl, ho1, hb1⟩
        have hn1 : n1 ≤ 81 := by have := limb_double_len HX.out (own_limb_len ho1); omega
        have h1 := own_one w1 2
        have HO := Lib.hid h1
        clear h1
        go_wp2_with fail
        refine (l02Sub_any _ _ _ _ (X + X) ((own_rd ho1).alloc _) (by omega) _ _ _ 1 (own_rd HO.out) (by have := HXP.out; omega)).mono ?_
        rintro e w3 ⟨A3, n3, c3, rfl, ho3, hb3⟩
        have hn3 : n3 ≤ 81 := by
          have h1 := own_limb_len ho3
          have h2 := limbs_len_mono (Nat.sub_le (X + X) 1)
          have h3 := own_limb_len ho1
          omega
        have hs : w1.heap.size ≤ (w1.alloc (.cells #[.int .i64 1] 2)).heap.size := by simp
        have HB := Lib.hid ((hb1.trans ((below_new w1 (.cells #[.int .i64 1] 2)).mono hb1.size)).trans (hb3.mono (Nat.le_trans hb1.size hs)))
        have HO3 := Lib.hid (own_base ho3 (Nat.le_trans hb1.size hs))
        clear hs
        go_wp2_with fail
        refine (l02Fit_any _ _ _ _ _ _ HO3.out (by omega)).mono ?_
        rintro e w4 ⟨⟨A4, n4, c4, rfl, ho4⟩, rfl⟩
        go_wp2_with fail
        go_ret2
        rw [HF.out]
        exact ⟨A4, n4, c4, rfl, ho4, HB.out⟩
  · have hN' : isNatB xs = false := by simpa using hN
    have HF : Hid (signNum neg xs = ([], 1)) := Lib.hid (by simp [signNum, hN'])
    clear hN
    go_enter Try.func23, Try.ntmps23
    go_wp2_with (go_at_call 62; refine (l02Is_any _ _ _ _ _ hr hn).mono ?_; rintro e w' ⟨rfl, rfl⟩)
    go_ret2
    rw [HF.out]
    exact ⟨none, 0, 0, rfl, own_nil _ _ _, Below.refl _ _⟩

set_option maxHeartbeats 4000000 in
set_option maxRecDepth 100000 in
theorem lawSignedNumber (w : World) (x0 : Bool) (A1 : Option Addr) (n1 c1 : Nat) (x1 : List Int) (hr1 : Rd w A1 n1 (ints x1)) :
    Calls Try.prog 5 #[.bool x0, .slice A1 n1 c1] w fun e w' => e = .returned (.bool true) ∧ Below w.heap.size w w' := by
  by_cases hbig1 : n1 ≤ 1048576
  rotate_left
  · go_enter Try.func5, Try.ntmps5
    go_wp2_with fail
    go_ret
    exact ⟨rfl, Below.refl _ _⟩
  have hS : ∀ (w : World) (A1 : Option Addr) (n1 c1 : Nat) (h1 : Rd w A1 n1 (ints x1)) (hn1 : n1 ≤ 1099511627776), Calls Try.prog 23 #[.bool x0, .slice A1 n1 c1] w (RetSI w 2 (ints ((signNum x0 x1).1)) ((signNum x0 x1).2)) := fun w A1 n1 c1 h1 hn1 => specSignedNumber_any w x0 A1 n1 c1 x1 h1 hn1
  have hI : ∀ (w : World) (A1 : Option Addr) (n1 c1 : Nat) (h1 : Rd w A1 n1 (ints x1)) (hn1 : n1 ≤ 1099511627776), Calls Try.prog 24 #[.bool x0, .slice A1 n1 c1] w (RetSI w 2 (ints ((signNum x0 x1).1)) ((signNum x0 x1).2)) := fun w A1 n1 c1 h1 hn1 => implSignedNumber_any w x0 A1 n1 c1 x1 h1 hn1
  have HRL0 : Hid (((signNum x0 x1).1).length ≤ 1000000) := Lib.hid (signNum_len _ _)
  have HS := Lib.hid hS; have HI := Lib.hid hI
  clear hS hI
  generalize (signNum x0 x1).1 = r0 at HS HI HRL0
  generalize (signNum x0 x1).2 = r1 at HS HI
  have HXL1 : Hid (x1.length = n1) := Lib.hid (by simpa using hr1.1)
  have HB := Below.refl w.heap.size w
  go_enter Try.func5, Try.ntmps5
  go_wp2_with fail
  refine (toInt64S_any _ _ _ _ x1 (hr1.below HB (Nat.le_refl _)) (by omega)).mono ?_
  rintro e v1 ⟨Ao1, no1, co1, rfl, hoo1, hbv1⟩
  have hno1 : no1 ≤ 1048576 := by have := hoo1.1; simp at this; have := HXL1.out; omega
  replace HB := HB.trans (hbv1.mono HB.size)
  have hrgo1 : Hid (∀ k, (Value.slice Ao1 no1 co1).ownBlock = some k → w.heap.size ≤ k ∧ k < v1.heap.size) := Lib.hid fun k hk => hoo1.lt k hk
  have hszv1 := hbv1.size
  go_wp2_with fail
  refine (HS.out _ _ _ _ (own_rd hoo1) (by omega)).mono ?_
  rintro e v2 ⟨Ao2, no2, co2, rfl, hoo2, hbv2⟩
  have hno2 : no2 ≤ 1000000 := by have := hoo2.1; simp at this; have := HRL0.out; omega
  replace hoo1 := own_below hoo1 hbv2 (Nat.le_refl _)
  replace HB := HB.trans (hbv2.mono HB.size)
  have hrgo2 : Hid (∀ k, (Value.slice Ao2 no2 co2).ownBlock = some k → v1.heap.size ≤ k ∧ k < v2.heap.size) := Lib.hid fun k hk => hoo2.lt k hk
  have hszv2 := hbv2.size
  go_wp2_with fail
  refine (toInt64S_any _ _ _ _ x1 (hr1.below HB (Nat.le_refl _)) (by omega)).mono ?_
  rintro e v3 ⟨Ao3, no3, co3, rfl, hoo3, hbv3⟩
  have hno3 : no3 ≤ 1048576 := by have := hoo3.1; simp at this; have := HXL1.out; omega
  replace hoo1 := own_below hoo1 hbv3 (Nat.le_refl _)
  replace hoo2 := own_below hoo2 hbv3 (Nat.le_refl _)
  replace HB := HB.trans (hbv3.mono HB.size)
  have hrgo3 : Hid (∀ k, (Value.slice Ao3 no3 co3).ownBlock = some k → v2.heap.size ≤ k ∧ k < v3.heap.size) := Lib.hid fun k hk => hoo3.lt k hk
  have hszv3 := hbv3.size
  go_wp2_with fail
  refine (HI.out _ _ _ _ (own_rd hoo3) (by omega)).mono ?_
  rintro e v4 ⟨Ao4, no4, co4, rfl, hoo4, hbv4⟩
  have hno4 : no4 ≤ 1000000 := by have := hoo4.1; simp at this; have := HRL0.out; omega
  replace hoo1 := own_below hoo1 hbv4 (Nat.le_refl _)
  replace hoo2 := own_below hoo2 hbv4 (Nat.le_refl _)
  replace hoo3 := own_below hoo3 hbv4 (Nat.le_refl _)
  replace HB := HB.trans (hbv4.mono HB.size)
  have hrgo4 : Hid (∀ k, (Value.slice Ao4 no4 co4).ownBlock = some k → v3.heap.size ≤ k ∧ k < v4.heap.size) := Lib.hid fun k hk => hoo4.lt k hk
  have hszv4 := hbv4.size
  go_wp2_with fail
  refine (eq_same _ _ _ _ _ (own_rd hoo4) (by omega) _ _ _ (own_rd hoo2)).mono ?_
  rintro e v5 ⟨rfl, hbv5⟩
  replace hoo1 := own_below hoo1 hbv5 (Nat.le_refl _)
  replace hoo2 := own_below hoo2 hbv5 (Nat.le_refl _)
  replace hoo3 := own_below hoo3 hbv5 (Nat.le_refl _)
  replace hoo4 := own_below hoo4 hbv5 (Nat.le_refl _)
  replace HB := HB.trans (hbv5.mono HB.size)
  have hszv5 := hbv5.size
  go_wp2_with fail
  refine (toInt64S_any _ _ _ _ x1 (hr1.below HB (Nat.le_refl _)) (by omega)).mono ?_
  rintro e v6 ⟨Ao5, no5, co5, rfl, hoo5, hbv6⟩
  have hno5 : no5 ≤ 1048576 := by have := hoo5.1; simp at this; have := HXL1.out; omega
  replace hoo1 := own_below hoo1 hbv6 (Nat.le_refl _)
  replace hoo2 := own_below hoo2 hbv6 (Nat.le_refl _)
  replace hoo3 := own_below hoo3 hbv6 (Nat.le_refl _)
  replace hoo4 := own_below hoo4 hbv6 (Nat.le_refl _)
  replace HB := HB.trans (hbv6.mono HB.size)
  have hrgo5 : Hid (∀ k, (Value.slice Ao5 no5 co5).ownBlock = some k → v5.heap.size ≤ k ∧ k < v6.heap.size) := Lib.hid fun k hk => hoo5.lt k hk
  have hszv6 := hbv6.size
  go_wp2_with fail
  refine (eq_same _ _ _ _ _ (own_rd hoo3) (by omega) _ _ _ (own_rd hoo5)).mono ?_
  rintro e v7 ⟨rfl, hbv7⟩
  replace hoo1 := own_below hoo1 hbv7 (Nat.le_refl _)
  replace hoo2 := own_below hoo2 hbv7 (Nat.le_refl _)
  replace hoo3 := own_below hoo3 hbv7 (Nat.le_refl _)
  replace hoo4 := own_below hoo4 hbv7 (Nat.le_refl _)
  replace hoo5 := own_below hoo5 hbv7 (Nat.le_refl _)
  replace HB := HB.trans (hbv7.mono HB.size)
  have hszv7 := hbv7.size
  go_wp2_with fail
  refine (markInt64S_any _ _ _ _ _ _ hoo3 (by omega) (1) (by omega) (by omega)).mono ?_
  rintro e v8 ⟨rfl, hmo3, hgv8⟩
  replace hoo1 := mark_keep hoo1 hgv8 (fun k h1 h2 => by have := hrgo1.out k h1; have := hrgo3.out k h2; omega)
  replace hoo2 := mark_keep hoo2 hgv8 (fun k h1 h2 => by have := hrgo2.out k h1; have := hrgo3.out k h2; omega)
  replace hoo4 := mark_keep hoo4 hgv8 (fun k h1 h2 => by have := hrgo4.out k h1; have := hrgo3.out k h2; omega)
  replace hoo5 := mark_keep hoo5 hgv8 (fun k h1 h2 => by have := hrgo5.out k h1; have := hrgo3.out k h2; omega)
  replace HB := HB.grown hgv8 HB.size (fun k hk => by have := hrgo3.out k hk; omega)
  replace hoo3 := hmo3
  have hszv8 := hgv8.size
  go_wp2_with fail
  refine (eq_same _ _ _ _ _ (own_rd hoo4) (by omega) _ _ _ (own_rd hoo2)).mono ?_
  rintro e v9 ⟨rfl, hbv9⟩
  replace hoo1 := own_below hoo1 hbv9 (Nat.le_refl _)
  replace hoo2 := own_below hoo2 hbv9 (Nat.le_refl _)
  replace hoo3 := own_below hoo3 hbv9 (Nat.le_refl _)
  replace hoo4 := own_below hoo4 hbv9 (Nat.le_refl _)
  replace hoo5 := own_below hoo5 hbv9 (Nat.le_refl _)
  replace HB := HB.trans (hbv9.mono HB.size)
  have hszv9 := hbv9.size
  go_wp2_with fail
  refine (markInt64S_any _ _ _ _ _ _ hoo4 (by omega) (1) (by omega) (by omega)).mono ?_
  rintro e v10 ⟨rfl, hmo4, hgv10⟩
  replace hoo1 := mark_keep hoo1 hgv10 (fun k h1 h2 => by have := hrgo1.out k h1; have := hrgo4.out k h2; omega)
  replace hoo2 := mark_keep hoo2 hgv10 (fun k h1 h2 => by have := hrgo2.out k h1; have := hrgo4.out k h2; omega)
  replace hoo3 := mark_keep hoo3 hgv10 (fun k h1 h2 => by have := hrgo3.out k h1; have := hrgo4.out k h2; omega)
  replace hoo5 := mark_keep hoo5 hgv10 (fun k h1 h2 => by have := hrgo5.out k h1; have := hrgo4.out k h2; omega)
  replace HB := HB.grown hgv10 HB.size (fun k hk => by have := hrgo4.out k hk; omega)
  replace hoo4 := hmo4
  have hszv10 := hgv10.size
  go_wp2_with fail
  refine (heldInt64S_any _ _ _ _ (1) (own_rd hoo4) (by omega) (by omega) (by omega)).mono ?_
  rintro e v11 ⟨rfl, hbv11⟩
  replace hoo1 := own_below hoo1 hbv11 (Nat.le_refl _)
  replace hoo2 := own_below hoo2 hbv11 (Nat.le_refl _)
  replace hoo3 := own_below hoo3 hbv11 (Nat.le_refl _)
  replace hoo4 := own_below hoo4 hbv11 (Nat.le_refl _)
  replace hoo5 := own_below hoo5 hbv11 (Nat.le_refl _)
  replace HB := HB.trans (hbv11.mono HB.size)
  have hszv11 := hbv11.size
  go_wp2_with fail
  refine (toInt64S_any _ _ _ _ x1 (hr1.below HB (Nat.le_refl _)) (by omega)).mono ?_
  rintro e v12 ⟨Ao6, no6, co6, rfl, hoo6, hbv12⟩
  have hno6 : no6 ≤ 1048576 := by have := hoo6.1; simp at this; have := HXL1.out; omega
  replace hoo1 := own_below hoo1 hbv12 (Nat.le_refl _)
  replace hoo2 := own_below hoo2 hbv12 (Nat.le_refl _)
  replace hoo3 := own_below hoo3 hbv12 (Nat.le_refl _)
  replace hoo4 := own_below hoo4 hbv12 (Nat.le_refl _)
  replace hoo5 := own_below hoo5 hbv12 (Nat.le_refl _)
  replace HB := HB.trans (hbv12.mono HB.size)
  have hrgo6 : Hid (∀ k, (Value.slice Ao6 no6 co6).ownBlock = some k → v11.heap.size ≤ k ∧ k < v12.heap.size) := Lib.hid fun k hk => hoo6.lt k hk
  have hszv12 := hbv12.size
  go_wp2_with fail
  refine (HI.out _ _ _ _ (own_rd hoo6) (by omega)).mono ?_
  rintro e v13 ⟨Ao7, no7, co7, rfl, hoo7, hbv13⟩
  have hno7 : no7 ≤ 1000000 := by have := hoo7.1; simp at this; have := HRL0.out; omega
  replace hoo1 := own_below hoo1 hbv13 (Nat.le_refl _)
  replace hoo2 := own_below hoo2 hbv13 (Nat.le_refl _)
  replace hoo3 := own_below hoo3 hbv13 (Nat.le_refl _)
  replace hoo4 := own_below hoo4 hbv13 (Nat.le_refl _)
  replace hoo5 := own_below hoo5 hbv13 (Nat.le_refl _)
  replace hoo6 := own_below hoo6 hbv13 (Nat.le_refl _)
  replace HB := HB.trans (hbv13.mono HB.size)
  have hrgo7 : Hid (∀ k, (Value.slice Ao7 no7 co7).ownBlock = some k → v12.heap.size ≤ k ∧ k < v13.heap.size) := Lib.hid fun k hk => hoo7.lt k hk
  have hszv13 := hbv13.size
  go_wp2_with fail
  refine (eq_same _ _ _ _ _ (own_rd hoo7) (by omega) _ _ _ (own_rd hoo2)).mono ?_
  rintro e v14 ⟨rfl, hbv14⟩
  replace hoo1 := own_below hoo1 hbv14 (Nat.le_refl _)
  replace hoo2 := own_below hoo2 hbv14 (Nat.le_refl _)
  replace hoo3 := own_below hoo3 hbv14 (Nat.le_refl _)
  replace hoo4 := own_below hoo4 hbv14 (Nat.le_refl _)
  replace hoo5 := own_below hoo5 hbv14 (Nat.le_refl _)
  replace hoo6 := own_below hoo6 hbv14 (Nat.le_refl _)
  replace hoo7 := own_below hoo7 hbv14 (Nat.le_refl _)
  replace HB := HB.trans (hbv14.mono HB.size)
  have hszv14 := hbv14.size
  go_wp2_with fail
  refine (heldInt64S_any _ _ _ _ (1) (own_rd hoo4) (by omega) (by omega) (by omega)).mono ?_
  rintro e v15 ⟨rfl, hbv15⟩
  replace hoo1 := own_below hoo1 hbv15 (Nat.le_refl _)
  replace hoo2 := own_below hoo2 hbv15 (Nat.le_refl _)
  replace hoo3 := own_below hoo3 hbv15 (Nat.le_refl _)
  replace hoo4 := own_below hoo4 hbv15 (Nat.le_refl _)
  replace hoo5 := own_below hoo5 hbv15 (Nat.le_refl _)
  replace hoo6 := own_below hoo6 hbv15 (Nat.le_refl _)
  replace hoo7 := own_below hoo7 hbv15 (Nat.le_refl _)
  replace HB := HB.trans (hbv15.mono HB.size)
  have hszv15 := hbv15.size
  go_wp2_with fail
  go_ret
  exact ⟨rfl, HB⟩
end Go.Proofs.Ytdpkcnjoklnoeaa
