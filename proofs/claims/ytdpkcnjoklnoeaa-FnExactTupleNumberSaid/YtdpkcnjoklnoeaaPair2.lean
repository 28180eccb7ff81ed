/- PairOf: lists of naturals that are asked one by one; the pair's number. -/
import Derived.Test.YtdpkcnjoklnoeaaPair
namespace Go.Proofs.Ytdpkcnjoklnoeaa
open Go.RowKit Limb

/-- A slice of slices of integers: its cells are slice values, and each reads as a list. -/
def RdL (w : World) (A : Option Addr) (n : Nat) (xss : List (List Int)) : Prop :=
  ∃ vs : List Value, Rd w A n vs ∧ vs.length = xss.length ∧ ∀ (i : Nat) (v : Value) (xs : List Int), vs[i]? = some v → xss[i]? = some xs → ∃ A' n' c', v = .slice A' n' c' ∧ n' ≤ 1000000000 ∧ Rd w A' n' (ints xs)
theorem RdL.len {w : World} {A : Option Addr} {n : Nat} {xss : List (List Int)} (h : RdL w A n xss) : xss.length = n := by
  obtain ⟨vs, h1, h2, _⟩ := h; rw [← h2, h1.1]
theorem RdL.at_ {w : World} {A : Option Addr} {n k : Nat} {xss : List (List Int)} {xs : List Int} (h : RdL w A n xss) (hx : xss[k]? = some xs) :
    ∃ b off A' n' c', A = some ⟨b, off, none⟩ ∧ b < w.heap.size ∧ w.cell? ⟨b, off + k, none⟩ = some (.slice A' n' c') ∧ n' ≤ 1000000000 ∧ Rd w A' n' (ints xs) := by
  obtain ⟨vs, h1, h2, h3⟩ := h
  have hk : k < vs.length := by rw [h2]; exact (List.getElem?_eq_some_iff.1 hx).1
  obtain ⟨v, hv⟩ := get_some hk
  obtain ⟨A', n', c', rfl, hn', hr'⟩ := h3 k v xs hv hx
  obtain ⟨b, off, e, hb, hc⟩ := h1.at_ hv
  exact ⟨b, off, A', n', c', e, hb, hc, hn', hr'⟩
theorem RdL.below {w w' : World} {A : Option Addr} {n B : Nat} {xss : List (List Int)} (h : RdL w A n xss) (hb : Below B w w') (hB : w.heap.size ≤ B) : RdL w' A n xss := by
  obtain ⟨vs, h1, h2, h3⟩ := h
  refine ⟨vs, h1.below hb hB, h2, fun i v xs hv hx => ?_⟩
  obtain ⟨A', n', c', e, hn', hr'⟩ := h3 i v xs hv hx
  exact ⟨A', n', c', e, hn', hr'.below hb hB⟩

def allNat (xss : List (List Int)) : Bool := xss.all isNatB
def idxNot : List (List Int) → Int
  | [] => -1
  | xs :: r => if isNatB xs = true then (if idxNot r < 0 then -1 else idxNot r + 1) else 0
theorem idxNot_neg (xss : List (List Int)) : (0 ≤ idxNot xss) ↔ allNat xss = false := by
  induction xss with
  | nil => simp [idxNot, allNat]
  | cons xs r ih =>
    simp only [idxNot, allNat, List.all_cons]
    by_cases h : isNatB xs = true
    · rw [if_pos h, h, Bool.true_and]
      split
      · have : ¬ 0 ≤ idxNot r := by omega
        rw [ih] at this
        simp only [allNat] at this
        constructor
        · omega
        · intro h; exact absurd h this
      · have : 0 ≤ idxNot r := by omega
        constructor
        · intro _; exact ih.1 this
        · omega
    · rw [if_neg h]; simp [h]

set_option maxHeartbeats 400000 in
theorem naturals1_any (w : World) (A : Option Addr) (n c : Nat) (xs : List Int) (hr : Rd w A n (ints xs)) (hn : n ≤ 1000000000) :
    Calls Try.prog 88 #[.slice A n c] w fun e w' => e = .returned (.bool (!isNatB xs)) ∧ w = w' := by
  go_enter Try.func88, Try.ntmps88
  go_wp2_with (go_at_call 65; refine (isNatural_any _ _ _ _ _ hr (by omega)).mono ?_; rintro e w' ⟨rfl, rfl⟩)
  go_ret
  exact ⟨rfl, rfl⟩

theorem allNat_take_step {xss : List (List Int)} {k : Nat} {xs : List Int} (h : allNat (xss.take k) = true) (hx : xss[k]? = some xs) (hn : isNatB xs = true) : allNat (xss.take (k + 1)) = true := by
  rw [List.take_add_one, hx]
  simp only [allNat, List.all_append, Bool.and_eq_true] at h ⊢
  exact ⟨h, by simp [hn]⟩
theorem allNat_out {xss : List (List Int)} {k : Nat} {xs : List Int} (hx : xss[k]? = some xs) (hn : isNatB xs = false) : allNat xss = false := by
  obtain ⟨hk, rfl⟩ := List.getElem?_eq_some_iff.1 hx
  simp only [allNat, List.all_eq_false]
  exact ⟨_, List.getElem_mem hk, by simp [hn]⟩

/-- The index that a search returns: not negative just where something was found. -/
def Found (w : World) (bad : Bool) (e : Ending) (w' : World) : Prop := ∃ i : Int, e = .returned (.int .i64 i) ∧ decide (0 ≤ i) = bad ∧ w = w'

set_option maxHeartbeats 1000000 in
theorem indexFunc_any (w : World) (A : Option Addr) (n c : Nat) (xss : List (List Int)) (hr : RdL w A n xss) (hn : n ≤ 1000000000) :
    Calls Try.prog 93 #[.slice A n c, .func (.func 88) #[] #[]] w (Found w (!allNat xss)) := by
  have HL : Hid (xss.length = n) := Lib.hid hr.len
  go_enter Try.func93, Try.ntmps93
  go_wp2_with fail
  go_loop [8] (fun q => ∃ k : Nat, k ≤ n ∧ q = .int .i64 k ∧ Hid (allNat (xss.take k) = true)) (fun q => n - (intOf q).toNat)
  case atStart => exact ⟨0, Nat.zero_le _, rfl, Lib.hid (by simp [allNat])⟩
  case round =>
    obtain ⟨k, hk, rfl, hall⟩ := hrel
    by_cases h1 : k < n
    · obtain ⟨xs, hx⟩ := get_some (xs := xss) (k := k) (by rw [HL.out]; omega)
      obtain ⟨b, off, A', n', c', rfl, hbk, hcx, hn', hr'⟩ := hr.at_ hx
      have HX := Lib.hid hx
      clear hx
      by_cases hin : isNatB xs = true
      · go_wp2_with (go_at_call 88; refine (naturals1_any _ _ _ _ _ hr' hn').mono ?_; rintro e w' ⟨rfl, rfl⟩)
        go_round
        case rel => exact ⟨k + 1, by omega, by go_num, Lib.hid (allNat_take_step hall.out HX.out hin)⟩
        case measure => simp [intOf]; omega
      · have hin' : isNatB xs = false := by simpa using hin
        clear hin
        go_wp2_with (go_at_call 88; refine (naturals1_any _ _ _ _ _ hr' hn').mono ?_; rintro e w' ⟨rfl, rfl⟩)
        go_ret
        exact ⟨k, rfl, by rw [allNat_out HX.out hin']; simp, rfl⟩
    · go_wp2_with fail
      go_ret
      have h := hall.out
      rw [List.take_of_length_le (by rw [HL.out]; omega)] at h
      exact ⟨-1, rfl, by rw [h]; rfl, rfl⟩

set_option maxHeartbeats 400000 in
theorem containsFunc_any (w : World) (A : Option Addr) (n c : Nat) (xss : List (List Int)) (hr : RdL w A n xss) (hn : n ≤ 1000000000) :
    Calls Try.prog 87 #[.slice A n c, .func (.func 88) #[] #[]] w fun e w' => e = .returned (.bool (!allNat xss)) ∧ w = w' := by
  go_enter Try.func87, Try.ntmps87
  go_wp2_with fail
  refine (indexFunc_any _ _ _ _ _ hr hn).mono ?_
  rintro e w' ⟨i, rfl, hi, rfl⟩
  have HI := Lib.hid hi; clear hi
  go_wp2_with fail
  go_ret
  exact ⟨by rw [← HI.out]; rfl, rfl⟩

set_option maxHeartbeats 400000 in
theorem naturals_any (w : World) (A : Option Addr) (n c : Nat) (xss : List (List Int)) (hr : RdL w A n xss) (hn : n ≤ 1000000000) :
    Calls Try.prog 71 #[.slice A n c] w fun e w' => e = .returned (.bool (allNat xss)) ∧ w = w' := by
  go_enter Try.func71, Try.ntmps71
  go_wp2_with (go_at_call 87; refine (containsFunc_any _ _ _ _ _ hr hn).mono ?_; rintro e w' ⟨rfl, rfl⟩)
  go_ret
  exact ⟨by simp, rfl⟩

def pairVal (a b : Nat) : Nat := (a + b) * (a + b + 1) / 2 + b
theorem len_pair {a b la lb : Nat} (ha : (limbs a).length ≤ la) (hb : (limbs b).length ≤ lb) : (limbs ((a + b) * (a + b + 1))).length ≤ 2 * (la + lb + 1) + 2 := by
  have h1 := limbs_len_add a b
  have h2 := limbs_len_add (a + b) 1
  have h3 := limbs_len_mul (a + b) (a + b + 1)
  have h4 := limbs_len_small (n := 1) (by omega)
  have h5 : (limbs 1).length = 1 := by rw [show limbs 1 = [1] from limbs_one (x := 1) (by omega) (by omega)]; rfl
  omega
theorem own_len_le {w : World} {base e n X m : Nat} {v : Value} (h : w.ownsRow base e 1 v n (ints (limbs X))) (hX : (limbs X).length ≤ m) : n ≤ m := by rw [← own_limb_len h]; exact hX

set_option maxHeartbeats 1000000 in
theorem pairOf_any (w : World) (A : Option Addr) (n c : Nat) (X : Nat) (hr : Rd w A n (ints (limbs X))) (hn : n ≤ 100000) (A' : Option Addr) (n' c' : Nat) (Y : Nat) (hr' : Rd w A' n' (ints (limbs Y))) (hn' : n' ≤ 100000) :
    Calls Try.prog 72 #[.slice A n c, .slice A' n' c'] w (RetS w 2 (ints (limbs (pairVal X Y)))) := by
  have HL : Hid ((limbs X).length ≤ 100000) := Lib.hid (by have h := hr.1; simp at h; omega)
  have HL' : Hid ((limbs Y).length ≤ 100000) := Lib.hid (by have h := hr'.1; simp at h; omega)
  go_enter Try.func72, Try.ntmps72
  go_wp2_with fail
  refine (add_any _ _ _ _ X hr (by omega) _ _ _ Y hr' (by omega)).mono ?_
  rintro e w1 ⟨A1, n1, c1, rfl, ho1, hb1⟩
  have hn1 : n1 ≤ 200001 := own_len_le ho1 (by have := limbs_len_add X Y; have := HL.out; have := HL'.out; omega)
  go_wp2_with fail
  refine (one_any _).mono ?_
  rintro e w2 ⟨A2, n2, c2, rfl, ho2, hb2⟩
  have hn2 := own_small ho2 (by omega)
  have HB2 := Lib.hid (hb1.trans (hb2.mono hb1.size))
  go_wp2_with fail
  refine (add_any _ _ _ _ (X + Y) ((own_rd ho1).below hb2 (Nat.le_refl _)) (by omega) _ _ _ 1 (own_rd ho2) (by omega)).mono ?_
  rintro e w3 ⟨A3, n3, c3, rfl, ho3, hb3⟩
  have hn3 : n3 ≤ 200010 := by have := own_add_len ho3 ho1 ho2; omega
  have HB3 := Lib.hid (HB2.out.trans (hb3.mono HB2.out.size))
  go_wp2_with fail
  refine (multiply_any _ _ _ _ (X + Y) (((own_rd ho1).below hb2 (Nat.le_refl _)).below hb3 (Nat.le_refl _)) (by omega) _ _ _ (X + Y + 1) (own_rd ho3) (by omega)).mono ?_
  rintro e w4 ⟨A4, n4, c4, rfl, ho4, hb4⟩
  have hn4 : n4 ≤ 400100 := by have := own_mul_len ho4 ho1 ho3; omega
  have HB4 := Lib.hid (HB3.out.trans (hb4.mono HB3.out.size))
  go_wp2_with fail
  refine (divideSmall_any _ _ _ _ _ (own_rd ho4) (by omega) 2 (by omega) (by omega)).mono ?_
  rintro e w5 ⟨A5, n5, c5, rfl, ho5, hb5⟩
  have hn5 : n5 ≤ 400100 := own_len_le ho5 (Nat.le_trans (limbs_len_mono (Nat.div_le_self _ _)) (by rw [own_limb_len ho4]; exact hn4))
  have HB5 := Lib.hid (HB4.out.trans (hb5.mono HB4.out.size))
  go_wp2_with fail
  refine (add_any _ _ _ _ _ (own_rd ho5) (by omega) _ _ _ Y (hr'.below HB5.out (Nat.le_refl _)) (by omega)).mono ?_
  rintro e w6 ⟨A6, n6, c6, rfl, ho6, hb6⟩
  go_wp2_with fail
  go_ret
  exact ⟨A6, n6, c6, rfl, own_base ho6 HB5.out.size, HB5.out.trans (hb6.mono HB5.out.size)⟩

set_option maxHeartbeats 1000000 in
theorem l04Pair_any (w : World) (A : Option Addr) (n c : Nat) (X : Nat) (hr : Rd w A n (ints (limbs X))) (hn : n ≤ 100000) (A' : Option Addr) (n' c' : Nat) (Y : Nat) (hr' : Rd w A' n' (ints (limbs Y))) (hn' : n' ≤ 100000) :
    Calls Try.prog 70 #[.slice A n c, .slice A' n' c'] w (RetS w 2 (ints (limbs (pairVal X Y)))) := by
  have HL : Hid ((limbs X).length ≤ 100000) := Lib.hid (by have h := hr.1; simp at h; omega)
  have HL' : Hid ((limbs Y).length ≤ 100000) := Lib.hid (by have h := hr'.1; simp at h; omega)
  go_enter Try.func70, Try.ntmps70
  go_wp2_with fail
  refine (l02Add_limbs _ _ _ _ X hr (by omega) _ _ _ Y hr' (by omega)).mono ?_
  rintro e w1 ⟨A1, n1, c1, rfl, ho1, hb1⟩
  have hn1 : n1 ≤ 200001 := own_len_le ho1 (by have := limbs_len_add X Y; have := HL.out; have := HL'.out; omega)
  have ho2 := own_one w1 2
  have hb2 := below_new w1 (.cells #[.int .i64 1] 2)
  have HB2 := Lib.hid (hb1.trans (hb2.mono hb1.size))
  have HO2 := Lib.hid ho2; have Hb2 := Lib.hid hb2
  clear ho2 hb2
  go_wp2_with fail
  refine (l02Add_limbs _ _ _ _ (X + Y) ((own_rd ho1).below Hb2.out (Nat.le_refl _)) (by omega) _ _ _ 1 (own_rd HO2.out) (by omega)).mono ?_
  rintro e w3 ⟨A3, n3, c3, rfl, ho3, hb3⟩
  have hn3 : n3 ≤ 200010 := by have := own_add_len ho3 ho1 HO2.out; omega
  have HB3 := Lib.hid (HB2.out.trans (hb3.mono HB2.out.size))
  go_wp2_with fail
  refine (l02Mul_limbs _ _ _ _ (X + Y) (((own_rd ho1).below Hb2.out (Nat.le_refl _)).below hb3 (Nat.le_refl _)) (by omega) _ _ _ (X + Y + 1) (own_rd ho3) (by omega)).mono ?_
  rintro e w4 ⟨A4, n4, c4, rfl, ho4, hb4⟩
  have hn4 : n4 ≤ 400100 := by have := own_mul_len ho4 ho1 ho3; omega
  have HB4 := Lib.hid (HB3.out.trans (hb4.mono HB3.out.size))
  go_wp2_with fail
  refine (l02By_any _ _ _ _ _ (own_rd ho4) (by omega) 2 (by omega) (by omega)).mono ?_
  rintro e w5 ⟨A5, n5, c5, rfl, ho5, hb5⟩
  have hn5 : n5 ≤ 400100 := own_len_le ho5 (Nat.le_trans (limbs_len_mono (Nat.div_le_self _ _)) (by rw [own_limb_len ho4]; exact hn4))
  have HB5 := Lib.hid (HB4.out.trans (hb5.mono HB4.out.size))
  go_wp2_with fail
  refine (l02Add_limbs _ _ _ _ _ (own_rd ho5) (by omega) _ _ _ Y (hr'.below HB5.out (Nat.le_refl _)) (by omega)).mono ?_
  rintro e w6 ⟨A6, n6, c6, rfl, ho6, hb6⟩
  go_wp2_with fail
  go_ret
  exact ⟨A6, n6, c6, rfl, own_base ho6 HB5.out.size, HB5.out.trans (hb6.mono HB5.out.size)⟩

theorem RdL.two {w : World} {A A' : Option Addr} {n n' c c' : Nat} {xs ys : List Int} (hr : Rd w A n (ints xs)) (hn : n ≤ 1000000000) (hr' : Rd w A' n' (ints ys)) (hn' : n' ≤ 1000000000) (e : TypeId) :
    RdL (w.alloc (.cells #[.slice A n c, .slice A' n' c'] e)) (some ⟨w.heap.size, 0, none⟩) 2 [xs, ys] := by
  refine ⟨[.slice A n c, .slice A' n' c'], own_rd (own_lit w #[.slice A n c, .slice A' n' c'] 2 e rfl (by omega)), rfl, fun i v zs hv hz => ?_⟩
  match i, hv, hz with
  | 0, hv, hz => simp at hv hz; subst hv hz; exact ⟨A, n, c, rfl, hn, hr.alloc _⟩
  | 1, hv, hz => simp at hv hz; subst hv hz; exact ⟨A', n', c', rfl, hn', hr'.alloc _⟩
  | i + 2, hv, hz => simp at hv

def pairNum (xs ys : List Int) : List Int × Int :=
  if isNatB xs = true ∧ isNatB ys = true then (fitOr (pairVal (natOf xs) (natOf ys)), fitCode (pairVal (natOf xs) (natOf ys))) else ([], 1)
theorem pairNum_ok {X Y : Nat} (h1 : isNatB (limbs X) = true) (h2 : isNatB (limbs Y) = true) : pairNum (limbs X) (limbs Y) = (fitOr (pairVal X Y), fitCode (pairVal X Y)) := by
  simp only [pairNum, if_pos (And.intro h1 h2), natOf_limbs]
theorem pairNum_bad {xs ys : List Int} (h : ¬ (isNatB xs = true ∧ isNatB ys = true)) : pairNum xs ys = ([], 1) := by simp only [pairNum, if_neg h]
theorem pairNum_len (xs ys : List Int) : (pairNum xs ys).1.length ≤ 1000000 := by
  have := fitOr_len (pairVal (natOf xs) (natOf ys))
  simp only [pairNum]
  split
  · simp only; omega
  · simp
theorem pairVal_len {X Y : Nat} (hX : (limbs X).length ≤ 40) (hY : (limbs Y).length ≤ 40) : (limbs (pairVal X Y)).length ≤ 1000 := by
  have h1 := len_pair hX hY
  have h2 := limbs_len_mono (Nat.div_le_self ((X + Y) * (X + Y + 1)) 2)
  have h3 := limbs_len_add ((X + Y) * (X + Y + 1) / 2) Y
  simp only [pairVal]
  omega

set_option maxHeartbeats 1000000 in
theorem implPairOf_any (w : World) (A : Option Addr) (n c : Nat) (xs : List Int) (hr : Rd w A n (ints xs)) (hn : n ≤ 1099511627776) (A' : Option Addr) (n' c' : Nat) (ys : List Int) (hr' : Rd w A' n' (ints ys)) (hn' : n' ≤ 1099511627776) (hs : n ≤ 1000000000) (hs' : n' ≤ 1000000000) :
    Calls Try.prog 28 #[.slice A n c, .slice A' n' c'] w (RetSI w 2 (ints (pairNum xs ys).1) (pairNum xs ys).2) := by
  have hL := RdL.two (c := c) (c' := c') hr hs hr' hs' 22
  have HL := Lib.hid hL
  clear hL
  by_cases hN : isNatB xs = true ∧ isNatB ys = true
  · obtain ⟨X, rfl, hX⟩ := isNat_limbs hN.1
    obtain ⟨Y, rfl, hY⟩ := isNat_limbs hN.2
    have hall : allNat [limbs X, limbs Y] = true := by simp [allNat, hN.1, hN.2]
    have HF := Lib.hid (pairNum_ok hN.1 hN.2)
    have hnx : n ≤ 40 := by have h := hr.1; simp at h; omega
    have hny : n' ≤ 40 := by have h := hr'.1; simp at h; omega
    have HPL := Lib.hid (pairVal_len hX hY)
    clear hN hX hY
    go_enter Try.func28, Try.ntmps28
    go_wp2_with fail
    refine (naturals_any _ _ _ _ _ HL.out (by omega)).mono ?_
    rw [hall]
    rintro e w1 ⟨rfl, rfl⟩
    have hb0 := below_new w (.cells #[.slice A n c, .slice A' n' c'] 22)
    have HB0 := Lib.hid hb0
    clear hb0
    go_wp2_with fail
    refine (pairOf_any _ _ _ _ X (hr.alloc _) (by omega) _ _ _ Y (hr'.alloc _) (by omega)).mono ?_
    rintro e w2 ⟨A2, n2, c2, rfl, ho2, hb2⟩
    have hn2 : n2 ≤ 1000 := own_len_le ho2 HPL.out
    go_wp2_with fail
    refine (limited_any _ _ _ _ _ _ ho2 (by omega)).mono ?_
    rintro e w3 ⟨⟨A3, n3, c3, rfl, ho3⟩, rfl⟩
    go_wp2_with fail
    go_ret2
    rw [HF.out]
    exact ⟨A3, n3, c3, rfl, own_base ho3 (by simp), HB0.out.trans (hb2.mono (by simp))⟩
  · have hall : allNat [xs, ys] = false := by
      simp only [allNat, List.all_cons, List.all_nil, Bool.and_true]
      cases h1 : isNatB xs <;> cases h2 : isNatB ys <;> simp_all
    have HF := Lib.hid (pairNum_bad hN)
    clear hN
    go_enter Try.func28, Try.ntmps28
    go_wp2_with fail
    refine (naturals_any _ _ _ _ _ HL.out (by omega)).mono ?_
    rw [hall]
    rintro e w1 ⟨rfl, rfl⟩
    go_wp2_with fail
    go_ret2
    rw [HF.out]
    exact ⟨none, 0, 0, rfl, own_nil _ _ _, below_new _ _⟩

set_option maxHeartbeats 1000000 in
theorem specPairOf_any (w : World) (A : Option Addr) (n c : Nat) (xs : List Int) (hr : Rd w A n (ints xs)) (hn : n ≤ 1099511627776) (A' : Option Addr) (n' c' : Nat) (ys : List Int) (hr' : Rd w A' n' (ints ys)) (hn' : n' ≤ 1099511627776) :
    Calls Try.prog 27 #[.slice A n c, .slice A' n' c'] w (RetSI w 2 (ints (pairNum xs ys).1) (pairNum xs ys).2) := by
  by_cases hN1 : isNatB xs = true
  · by_cases hN2 : isNatB ys = true
    · obtain ⟨X, rfl, hX⟩ := isNat_limbs hN1
      obtain ⟨Y, rfl, hY⟩ := isNat_limbs hN2
      have HF := Lib.hid (pairNum_ok hN1 hN2)
      have hnx : n ≤ 40 := by have h := hr.1; simp at h; omega
      have hny : n' ≤ 40 := by have h := hr'.1; simp at h; omega
      have HPL := Lib.hid (pairVal_len hX hY)
      clear hX hY
      go_enter Try.func27, Try.ntmps27
      go_wp2_with fail
      refine (l02Is_any _ _ _ _ _ hr hn).mono ?_
      rw [hN1]
      rintro e w1 ⟨rfl, rfl⟩
      go_wp2_with fail
      refine (l02Is_any _ _ _ _ _ hr' hn').mono ?_
      rw [hN2]
      rintro e w1 ⟨rfl, rfl⟩
      go_wp2_with fail
      refine (l04Pair_any _ _ _ _ X hr (by omega) _ _ _ Y hr' (by omega)).mono ?_
      rintro e w2 ⟨A2, n2, c2, rfl, ho2, hb2⟩
      have hn2 : n2 ≤ 1000 := own_len_le ho2 HPL.out
      go_wp2_with fail
      refine (l02Fit_any _ _ _ _ _ _ ho2 (by omega)).mono ?_
      rintro e w3 ⟨⟨A3, n3, c3, rfl, ho3⟩, rfl⟩
      go_wp2_with fail
      go_ret2
      rw [HF.out]
      exact ⟨A3, n3, c3, rfl, ho3, hb2⟩
    · have hN2' : isNatB ys = false := by simpa using hN2
      have HF := Lib.hid (pairNum_bad (xs := xs) (ys := ys) (fun h => hN2 h.2))
      clear hN2
      go_enter Try.func27, Try.ntmps27
      go_wp2_with fail
      refine (l02Is_any _ _ _ _ _ hr hn).mono ?_
      rw [hN1]
      rintro e w1 ⟨rfl, rfl⟩
      go_wp2_with fail
      refine (l02Is_any _ _ _ _ _ hr' hn').mono ?_
      rw [hN2']
      rintro e w1 ⟨rfl, rfl⟩
      go_wp2_with fail
      go_ret2
      rw [HF.out]
      exact ⟨none, 0, 0, rfl, own_nil _ _ _, Below.refl _ _⟩
  · have hN1' : isNatB xs = false := by simpa using hN1
    have HF := Lib.hid (pairNum_bad (xs := xs) (ys := ys) (fun h => hN1 h.1))
    clear hN1
    go_enter Try.func27, Try.ntmps27
    go_wp2_with fail
    refine (l02Is_any _ _ _ _ _ hr hn).mono ?_
    rw [hN1']
    rintro e w1 ⟨rfl, rfl⟩
    go_wp2_with fail
    go_ret2
    rw [HF.out]
    exact ⟨none, 0, 0, rfl, own_nil _ _ _, Below.refl _ _⟩

set_option maxHeartbeats 4000000 in
set_option maxRecDepth 100000 in
theorem lawPairOf (w : World) (A0 : Option Addr) (n0 c0 : Nat) (x0 : List Int) (hr0 : Rd w A0 n0 (ints x0)) (A1 : Option Addr) (n1 c1 : Nat) (x1 : List Int) (hr1 : Rd w A1 n1 (ints x1)) :
    Calls Try.prog 7 #[.slice A0 n0 c0, .slice A1 n1 c1] w fun e w' => e = .returned (.bool true) ∧ Below w.heap.size w w' := by
  by_cases hbig0 : n0 ≤ 1048576
  rotate_left
  · go_enter Try.func7, Try.ntmps7
    go_wp2_with fail
    go_ret
    exact ⟨rfl, Below.refl _ _⟩
  by_cases hbig1 : n1 ≤ 1048576
  rotate_left
  · go_enter Try.func7, Try.ntmps7
    go_wp2_with fail
    go_ret
    exact ⟨rfl, Below.refl _ _⟩
  have hS : ∀ (w : World) (A0 : Option Addr) (n0 c0 : Nat) (h0 : Rd w A0 n0 (ints x0)) (hn0 : n0 ≤ 1000000000) (A1 : Option Addr) (n1 c1 : Nat) (h1 : Rd w A1 n1 (ints x1)) (hn1 : n1 ≤ 1000000000), Calls Try.prog 27 #[.slice A0 n0 c0, .slice A1 n1 c1] w (RetSI w 2 (ints ((pairNum x0 x1).1)) ((pairNum x0 x1).2)) := fun w A0 n0 c0 h0 hn0 A1 n1 c1 h1 hn1 => specPairOf_any w A0 n0 c0 x0 h0 (by omega) A1 n1 c1 x1 h1 (by omega)
  have hI : ∀ (w : World) (A0 : Option Addr) (n0 c0 : Nat) (h0 : Rd w A0 n0 (ints x0)) (hn0 : n0 ≤ 1000000000) (A1 : Option Addr) (n1 c1 : Nat) (h1 : Rd w A1 n1 (ints x1)) (hn1 : n1 ≤ 1000000000), Calls Try.prog 28 #[.slice A0 n0 c0, .slice A1 n1 c1] w (RetSI w 2 (ints ((pairNum x0 x1).1)) ((pairNum x0 x1).2)) := fun w A0 n0 c0 h0 hn0 A1 n1 c1 h1 hn1 => implPairOf_any w A0 n0 c0 x0 h0 (by omega) A1 n1 c1 x1 h1 (by omega) hn0 hn1
  have HRL0 : Hid (((pairNum x0 x1).1).length ≤ 1000000) := Lib.hid (pairNum_len _ _)
  have HS := Lib.hid hS; have HI := Lib.hid hI
  clear hS hI
  generalize (pairNum x0 x1).1 = r0 at HS HI HRL0
  generalize (pairNum x0 x1).2 = r1 at HS HI
  have HXL0 : Hid (x0.length = n0) := Lib.hid (by simpa using hr0.1)
  have HXL1 : Hid (x1.length = n1) := Lib.hid (by simpa using hr1.1)
  have HB := Below.refl w.heap.size w
  go_enter Try.func7, Try.ntmps7
  go_wp2_with fail
  refine (toInt64S_any _ _ _ _ x0 (hr0.below HB (Nat.le_refl _)) (by omega)).mono ?_
  rintro e v1 ⟨Ao1, no1, co1, rfl, hoo1, hbv1⟩
  have hno1 : no1 ≤ 1048576 := by have := hoo1.1; simp at this; have := HXL0.out; omega
  replace HB := HB.trans (hbv1.mono HB.size)
  have hrgo1 : Hid (∀ k, (Value.slice Ao1 no1 co1).ownBlock = some k → w.heap.size ≤ k ∧ k < v1.heap.size) := Lib.hid fun k hk => hoo1.lt k hk
  have hszv1 := hbv1.size
  go_wp2_with fail
  refine (toInt64S_any _ _ _ _ x1 (hr1.below HB (Nat.le_refl _)) (by omega)).mono ?_
  rintro e v2 ⟨Ao2, no2, co2, rfl, hoo2, hbv2⟩
  have hno2 : no2 ≤ 1048576 := by have := hoo2.1; simp at this; have := HXL1.out; omega
  replace hoo1 := own_below hoo1 hbv2 (Nat.le_refl _)
  replace HB := HB.trans (hbv2.mono HB.size)
  have hrgo2 : Hid (∀ k, (Value.slice Ao2 no2 co2).ownBlock = some k → v1.heap.size ≤ k ∧ k < v2.heap.size) := Lib.hid fun k hk => hoo2.lt k hk
  have hszv2 := hbv2.size
  go_wp2_with fail
  refine (HS.out _ _ _ _ (own_rd hoo1) (by omega) _ _ _ (own_rd hoo2) (by omega)).mono ?_
  rintro e v3 ⟨Ao3, no3, co3, rfl, hoo3, hbv3⟩
  have hno3 : no3 ≤ 1000000 := by have := hoo3.1; simp at this; have := HRL0.out; omega
  replace hoo1 := own_below hoo1 hbv3 (Nat.le_refl _)
  replace hoo2 := own_below hoo2 hbv3 (Nat.le_refl _)
  replace HB := HB.trans (hbv3.mono HB.size)
  have hrgo3 : Hid (∀ k, (Value.slice Ao3 no3 co3).ownBlock = some k → v2.heap.size ≤ k ∧ k < v3.heap.size) := Lib.hid fun k hk => hoo3.lt k hk
  have hszv3 := hbv3.size
  go_wp2_with fail
  refine (toInt64S_any _ _ _ _ x0 (hr0.below HB (Nat.le_refl _)) (by omega)).mono ?_
  rintro e v4 ⟨Ao4, no4, co4, rfl, hoo4, hbv4⟩
  have hno4 : no4 ≤ 1048576 := by have := hoo4.1; simp at this; have := HXL0.out; omega
  replace hoo1 := own_below hoo1 hbv4 (Nat.le_refl _)
  replace hoo2 := own_below hoo2 hbv4 (Nat.le_refl _)
  replace hoo3 := own_below hoo3 hbv4 (Nat.le_refl _)
  replace HB := HB.trans (hbv4.mono HB.size)
  have hrgo4 : Hid (∀ k, (Value.slice Ao4 no4 co4).ownBlock = some k → v3.heap.size ≤ k ∧ k < v4.heap.size) := Lib.hid fun k hk => hoo4.lt k hk
  have hszv4 := hbv4.size
  go_wp2_with fail
  refine (toInt64S_any _ _ _ _ x1 (hr1.below HB (Nat.le_refl _)) (by omega)).mono ?_
  rintro e v5 ⟨Ao5, no5, co5, rfl, hoo5, hbv5⟩
  have hno5 : no5 ≤ 1048576 := by have := hoo5.1; simp at this; have := HXL1.out; omega
  replace hoo1 := own_below hoo1 hbv5 (Nat.le_refl _)
  replace hoo2 := own_below hoo2 hbv5 (Nat.le_refl _)
  replace hoo3 := own_below hoo3 hbv5 (Nat.le_refl _)
  replace hoo4 := own_below hoo4 hbv5 (Nat.le_refl _)
  replace HB := HB.trans (hbv5.mono HB.size)
  have hrgo5 : Hid (∀ k, (Value.slice Ao5 no5 co5).ownBlock = some k → v4.heap.size ≤ k ∧ k < v5.heap.size) := Lib.hid fun k hk => hoo5.lt k hk
  have hszv5 := hbv5.size
  go_wp2_with fail
  refine (HI.out _ _ _ _ (own_rd hoo4) (by omega) _ _ _ (own_rd hoo5) (by omega)).mono ?_
  rintro e v6 ⟨Ao6, no6, co6, rfl, hoo6, hbv6⟩
  have hno6 : no6 ≤ 1000000 := by have := hoo6.1; simp at this; have := HRL0.out; omega
  replace hoo1 := own_below hoo1 hbv6 (Nat.le_refl _)
  replace hoo2 := own_below hoo2 hbv6 (Nat.le_refl _)
  replace hoo3 := own_below hoo3 hbv6 (Nat.le_refl _)
  replace hoo4 := own_below hoo4 hbv6 (Nat.le_refl _)
  replace hoo5 := own_below hoo5 hbv6 (Nat.le_refl _)
  replace HB := HB.trans (hbv6.mono HB.size)
  have hrgo6 : Hid (∀ k, (Value.slice Ao6 no6 co6).ownBlock = some k → v5.heap.size ≤ k ∧ k < v6.heap.size) := Lib.hid fun k hk => hoo6.lt k hk
  have hszv6 := hbv6.size
  go_wp2_with fail
  refine (eq_same _ _ _ _ _ (own_rd hoo6) (by omega) _ _ _ (own_rd hoo3)).mono ?_
  rintro e v7 ⟨rfl, hbv7⟩
  replace hoo1 := own_below hoo1 hbv7 (Nat.le_refl _)
  replace hoo2 := own_below hoo2 hbv7 (Nat.le_refl _)
  replace hoo3 := own_below hoo3 hbv7 (Nat.le_refl _)
  replace hoo4 := own_below hoo4 hbv7 (Nat.le_refl _)
  replace hoo5 := own_below hoo5 hbv7 (Nat.le_refl _)
  replace hoo6 := own_below hoo6 hbv7 (Nat.le_refl _)
  replace HB := HB.trans (hbv7.mono HB.size)
  have hszv7 := hbv7.size
  go_wp2_with fail
  refine (toInt64S_any _ _ _ _ x0 (hr0.below HB (Nat.le_refl _)) (by omega)).mono ?_
  rintro e v8 ⟨Ao7, no7, co7, rfl, hoo7, hbv8⟩
  have hno7 : no7 ≤ 1048576 := by have := hoo7.1; simp at this; have := HXL0.out; omega
  replace hoo1 := own_below hoo1 hbv8 (Nat.le_refl _)
  replace hoo2 := own_below hoo2 hbv8 (Nat.le_refl _)
  replace hoo3 := own_below hoo3 hbv8 (Nat.le_refl _)
  replace hoo4 := own_below hoo4 hbv8 (Nat.le_refl _)
  replace hoo5 := own_below hoo5 hbv8 (Nat.le_refl _)
  replace hoo6 := own_below hoo6 hbv8 (Nat.le_refl _)
  replace HB := HB.trans (hbv8.mono HB.size)
  have hrgo7 : Hid (∀ k, (Value.slice Ao7 no7 co7).ownBlock = some k → v7.heap.size ≤ k ∧ k < v8.heap.size) := Lib.hid fun k hk => hoo7.lt k hk
  have hszv8 := hbv8.size
  go_wp2_with fail
  refine (eq_same _ _ _ _ _ (own_rd hoo4) (by omega) _ _ _ (own_rd hoo7)).mono ?_
  rintro e v9 ⟨rfl, hbv9⟩
  replace hoo1 := own_below hoo1 hbv9 (Nat.le_refl _)
  replace hoo2 := own_below hoo2 hbv9 (Nat.le_refl _)
  replace hoo3 := own_below hoo3 hbv9 (Nat.le_refl _)
  replace hoo4 := own_below hoo4 hbv9 (Nat.le_refl _)
  replace hoo5 := own_below hoo5 hbv9 (Nat.le_refl _)
  replace hoo6 := own_below hoo6 hbv9 (Nat.le_refl _)
  replace hoo7 := own_below hoo7 hbv9 (Nat.le_refl _)
  replace HB := HB.trans (hbv9.mono HB.size)
  have hszv9 := hbv9.size
  go_wp2_with fail
  refine (toInt64S_any _ _ _ _ x1 (hr1.below HB (Nat.le_refl _)) (by omega)).mono ?_
  rintro e v10 ⟨Ao8, no8, co8, rfl, hoo8, hbv10⟩
  have hno8 : no8 ≤ 1048576 := by have := hoo8.1; simp at this; have := HXL1.out; omega
  replace hoo1 := own_below hoo1 hbv10 (Nat.le_refl _)
  replace hoo2 := own_below hoo2 hbv10 (Nat.le_refl _)
  replace hoo3 := own_below hoo3 hbv10 (Nat.le_refl _)
  replace hoo4 := own_below hoo4 hbv10 (Nat.le_refl _)
  replace hoo5 := own_below hoo5 hbv10 (Nat.le_refl _)
  replace hoo6 := own_below hoo6 hbv10 (Nat.le_refl _)
  replace hoo7 := own_below hoo7 hbv10 (Nat.le_refl _)
  replace HB := HB.trans (hbv10.mono HB.size)
  have hrgo8 : Hid (∀ k, (Value.slice Ao8 no8 co8).ownBlock = some k → v9.heap.size ≤ k ∧ k < v10.heap.size) := Lib.hid fun k hk => hoo8.lt k hk
  have hszv10 := hbv10.size
  go_wp2_with fail
  refine (eq_same _ _ _ _ _ (own_rd hoo5) (by omega) _ _ _ (own_rd hoo8)).mono ?_
  rintro e v11 ⟨rfl, hbv11⟩
  replace hoo1 := own_below hoo1 hbv11 (Nat.le_refl _)
  replace hoo2 := own_below hoo2 hbv11 (Nat.le_refl _)
  replace hoo3 := own_below hoo3 hbv11 (Nat.le_refl _)
  replace hoo4 := own_below hoo4 hbv11 (Nat.le_refl _)
  replace hoo5 := own_below hoo5 hbv11 (Nat.le_refl _)
  replace hoo6 := own_below hoo6 hbv11 (Nat.le_refl _)
  replace hoo7 := own_below hoo7 hbv11 (Nat.le_refl _)
  replace hoo8 := own_below hoo8 hbv11 (Nat.le_refl _)
  replace HB := HB.trans (hbv11.mono HB.size)
  have hszv11 := hbv11.size
  go_wp2_with fail
  refine (markInt64S_any _ _ _ _ _ _ hoo4 (by omega) (1) (by omega) (by omega)).mono ?_
  rintro e v12 ⟨rfl, hmo4, hgv12⟩
  replace hoo1 := mark_keep hoo1 hgv12 (fun k h1 h2 => by have := hrgo1.out k h1; have := hrgo4.out k h2; omega)
  replace hoo2 := mark_keep hoo2 hgv12 (fun k h1 h2 => by have := hrgo2.out k h1; have := hrgo4.out k h2; omega)
  replace hoo3 := mark_keep hoo3 hgv12 (fun k h1 h2 => by have := hrgo3.out k h1; have := hrgo4.out k h2; omega)
  replace hoo5 := mark_keep hoo5 hgv12 (fun k h1 h2 => by have := hrgo5.out k h1; have := hrgo4.out k h2; omega)
  replace hoo6 := mark_keep hoo6 hgv12 (fun k h1 h2 => by have := hrgo6.out k h1; have := hrgo4.out k h2; omega)
  replace hoo7 := mark_keep hoo7 hgv12 (fun k h1 h2 => by have := hrgo7.out k h1; have := hrgo4.out k h2; omega)
  replace hoo8 := mark_keep hoo8 hgv12 (fun k h1 h2 => by have := hrgo8.out k h1; have := hrgo4.out k h2; omega)
  replace HB := HB.grown hgv12 HB.size (fun k hk => by have := hrgo4.out k hk; omega)
  replace hoo4 := hmo4
  have hszv12 := hgv12.size
  go_wp2_with fail
  refine (markInt64S_any _ _ _ _ _ _ hoo5 (by omega) (1 + (no4 : Int)) (by omega) (by omega)).mono ?_
  rintro e v13 ⟨rfl, hmo5, hgv13⟩
  replace hoo1 := mark_keep hoo1 hgv13 (fun k h1 h2 => by have := hrgo1.out k h1; have := hrgo5.out k h2; omega)
  replace hoo2 := mark_keep hoo2 hgv13 (fun k h1 h2 => by have := hrgo2.out k h1; have := hrgo5.out k h2; omega)
  replace hoo3 := mark_keep hoo3 hgv13 (fun k h1 h2 => by have := hrgo3.out k h1; have := hrgo5.out k h2; omega)
  replace hoo4 := mark_keep hoo4 hgv13 (fun k h1 h2 => by have := hrgo4.out k h1; have := hrgo5.out k h2; omega)
  replace hoo6 := mark_keep hoo6 hgv13 (fun k h1 h2 => by have := hrgo6.out k h1; have := hrgo5.out k h2; omega)
  replace hoo7 := mark_keep hoo7 hgv13 (fun k h1 h2 => by have := hrgo7.out k h1; have := hrgo5.out k h2; omega)
  replace hoo8 := mark_keep hoo8 hgv13 (fun k h1 h2 => by have := hrgo8.out k h1; have := hrgo5.out k h2; omega)
  replace HB := HB.grown hgv13 HB.size (fun k hk => by have := hrgo5.out k hk; omega)
  replace hoo5 := hmo5
  have hszv13 := hgv13.size
  go_wp2_with fail
  refine (eq_same _ _ _ _ _ (own_rd hoo6) (by omega) _ _ _ (own_rd hoo3)).mono ?_
  rintro e v14 ⟨rfl, hbv14⟩
  replace hoo1 := own_below hoo1 hbv14 (Nat.le_refl _)
  replace hoo2 := own_below hoo2 hbv14 (Nat.le_refl _)
  replace hoo3 := own_below hoo3 hbv14 (Nat.le_refl _)
  replace hoo4 := own_below hoo4 hbv14 (Nat.le_refl _)
  replace hoo5 := own_below hoo5 hbv14 (Nat.le_refl _)
  replace hoo6 := own_below hoo6 hbv14 (Nat.le_refl _)
  replace hoo7 := own_below hoo7 hbv14 (Nat.le_refl _)
  replace hoo8 := own_below hoo8 hbv14 (Nat.le_refl _)
  replace HB := HB.trans (hbv14.mono HB.size)
  have hszv14 := hbv14.size
  go_wp2_with fail
  refine (markInt64S_any _ _ _ _ _ _ hoo6 (by omega) (1) (by omega) (by omega)).mono ?_
  rintro e v15 ⟨rfl, hmo6, hgv15⟩
  replace hoo1 := mark_keep hoo1 hgv15 (fun k h1 h2 => by have := hrgo1.out k h1; have := hrgo6.out k h2; omega)
  replace hoo2 := mark_keep hoo2 hgv15 (fun k h1 h2 => by have := hrgo2.out k h1; have := hrgo6.out k h2; omega)
  replace hoo3 := mark_keep hoo3 hgv15 (fun k h1 h2 => by have := hrgo3.out k h1; have := hrgo6.out k h2; omega)
  replace hoo4 := mark_keep hoo4 hgv15 (fun k h1 h2 => by have := hrgo4.out k h1; have := hrgo6.out k h2; omega)
  replace hoo5 := mark_keep hoo5 hgv15 (fun k h1 h2 => by have := hrgo5.out k h1; have := hrgo6.out k h2; omega)
  replace hoo7 := mark_keep hoo7 hgv15 (fun k h1 h2 => by have := hrgo7.out k h1; have := hrgo6.out k h2; omega)
  replace hoo8 := mark_keep hoo8 hgv15 (fun k h1 h2 => by have := hrgo8.out k h1; have := hrgo6.out k h2; omega)
  replace HB := HB.grown hgv15 HB.size (fun k hk => by have := hrgo6.out k hk; omega)
  replace hoo6 := hmo6
  have hszv15 := hgv15.size
  go_wp2_with fail
  refine (heldInt64S_any _ _ _ _ (1) (own_rd hoo6) (by omega) (by omega) (by omega)).mono ?_
  rintro e v16 ⟨rfl, hbv16⟩
  replace hoo1 := own_below hoo1 hbv16 (Nat.le_refl _)
  replace hoo2 := own_below hoo2 hbv16 (Nat.le_refl _)
  replace hoo3 := own_below hoo3 hbv16 (Nat.le_refl _)
  replace hoo4 := own_below hoo4 hbv16 (Nat.le_refl _)
  replace hoo5 := own_below hoo5 hbv16 (Nat.le_refl _)
  replace hoo6 := own_below hoo6 hbv16 (Nat.le_refl _)
  replace hoo7 := own_below hoo7 hbv16 (Nat.le_refl _)
  replace hoo8 := own_below hoo8 hbv16 (Nat.le_refl _)
  replace HB := HB.trans (hbv16.mono HB.size)
  have hszv16 := hbv16.size
  go_wp2_with fail
  refine (toInt64S_any _ _ _ _ x0 (hr0.below HB (Nat.le_refl _)) (by omega)).mono ?_
  rintro e v17 ⟨Ao9, no9, co9, rfl, hoo9, hbv17⟩
  have hno9 : no9 ≤ 1048576 := by have := hoo9.1; simp at this; have := HXL0.out; omega
  replace hoo1 := own_below hoo1 hbv17 (Nat.le_refl _)
  replace hoo2 := own_below hoo2 hbv17 (Nat.le_refl _)
  replace hoo3 := own_below hoo3 hbv17 (Nat.le_refl _)
  replace hoo4 := own_below hoo4 hbv17 (Nat.le_refl _)
  replace hoo5 := own_below hoo5 hbv17 (Nat.le_refl _)
  replace hoo6 := own_below hoo6 hbv17 (Nat.le_refl _)
  replace hoo7 := own_below hoo7 hbv17 (Nat.le_refl _)
  replace hoo8 := own_below hoo8 hbv17 (Nat.le_refl _)
  replace HB := HB.trans (hbv17.mono HB.size)
  have hrgo9 : Hid (∀ k, (Value.slice Ao9 no9 co9).ownBlock = some k → v16.heap.size ≤ k ∧ k < v17.heap.size) := Lib.hid fun k hk => hoo9.lt k hk
  have hszv17 := hbv17.size
  go_wp2_with fail
  refine (toInt64S_any _ _ _ _ x1 (hr1.below HB (Nat.le_refl _)) (by omega)).mono ?_
  rintro e v18 ⟨Ao10, no10, co10, rfl, hoo10, hbv18⟩
  have hno10 : no10 ≤ 1048576 := by have := hoo10.1; simp at this; have := HXL1.out; omega
  replace hoo1 := own_below hoo1 hbv18 (Nat.le_refl _)
  replace hoo2 := own_below hoo2 hbv18 (Nat.le_refl _)
  replace hoo3 := own_below hoo3 hbv18 (Nat.le_refl _)
  replace hoo4 := own_below hoo4 hbv18 (Nat.le_refl _)
  replace hoo5 := own_below hoo5 hbv18 (Nat.le_refl _)
  replace hoo6 := own_below hoo6 hbv18 (Nat.le_refl _)
  replace hoo7 := own_below hoo7 hbv18 (Nat.le_refl _)
  replace hoo8 := own_below hoo8 hbv18 (Nat.le_refl _)
  replace hoo9 := own_below hoo9 hbv18 (Nat.le_refl _)
  replace HB := HB.trans (hbv18.mono HB.size)
  have hrgo10 : Hid (∀ k, (Value.slice Ao10 no10 co10).ownBlock = some k → v17.heap.size ≤ k ∧ k < v18.heap.size) := Lib.hid fun k hk => hoo10.lt k hk
  have hszv18 := hbv18.size
  go_wp2_with fail
  refine (HI.out _ _ _ _ (own_rd hoo9) (by omega) _ _ _ (own_rd hoo10) (by omega)).mono ?_
  rintro e v19 ⟨Ao11, no11, co11, rfl, hoo11, hbv19⟩
  have hno11 : no11 ≤ 1000000 := by have := hoo11.1; simp at this; have := HRL0.out; omega
  replace hoo1 := own_below hoo1 hbv19 (Nat.le_refl _)
  replace hoo2 := own_below hoo2 hbv19 (Nat.le_refl _)
  replace hoo3 := own_below hoo3 hbv19 (Nat.le_refl _)
  replace hoo4 := own_below hoo4 hbv19 (Nat.le_refl _)
  replace hoo5 := own_below hoo5 hbv19 (Nat.le_refl _)
  replace hoo6 := own_below hoo6 hbv19 (Nat.le_refl _)
  replace hoo7 := own_below hoo7 hbv19 (Nat.le_refl _)
  replace hoo8 := own_below hoo8 hbv19 (Nat.le_refl _)
  replace hoo9 := own_below hoo9 hbv19 (Nat.le_refl _)
  replace hoo10 := own_below hoo10 hbv19 (Nat.le_refl _)
  replace HB := HB.trans (hbv19.mono HB.size)
  have hrgo11 : Hid (∀ k, (Value.slice Ao11 no11 co11).ownBlock = some k → v18.heap.size ≤ k ∧ k < v19.heap.size) := Lib.hid fun k hk => hoo11.lt k hk
  have hszv19 := hbv19.size
  go_wp2_with fail
  refine (eq_same _ _ _ _ _ (own_rd hoo11) (by omega) _ _ _ (own_rd hoo3)).mono ?_
  rintro e v20 ⟨rfl, hbv20⟩
  replace hoo1 := own_below hoo1 hbv20 (Nat.le_refl _)
  replace hoo2 := own_below hoo2 hbv20 (Nat.le_refl _)
  replace hoo3 := own_below hoo3 hbv20 (Nat.le_refl _)
  replace hoo4 := own_below hoo4 hbv20 (Nat.le_refl _)
  replace hoo5 := own_below hoo5 hbv20 (Nat.le_refl _)
  replace hoo6 := own_below hoo6 hbv20 (Nat.le_refl _)
  replace hoo7 := own_below hoo7 hbv20 (Nat.le_refl _)
  replace hoo8 := own_below hoo8 hbv20 (Nat.le_refl _)
  replace hoo9 := own_below hoo9 hbv20 (Nat.le_refl _)
  replace hoo10 := own_below hoo10 hbv20 (Nat.le_refl _)
  replace hoo11 := own_below hoo11 hbv20 (Nat.le_refl _)
  replace HB := HB.trans (hbv20.mono HB.size)
  have hszv20 := hbv20.size
  go_wp2_with fail
  refine (heldInt64S_any _ _ _ _ (1) (own_rd hoo6) (by omega) (by omega) (by omega)).mono ?_
  rintro e v21 ⟨rfl, hbv21⟩
  replace hoo1 := own_below hoo1 hbv21 (Nat.le_refl _)
  replace hoo2 := own_below hoo2 hbv21 (Nat.le_refl _)
  replace hoo3 := own_below hoo3 hbv21 (Nat.le_refl _)
  replace hoo4 := own_below hoo4 hbv21 (Nat.le_refl _)
  replace hoo5 := own_below hoo5 hbv21 (Nat.le_refl _)
  replace hoo6 := own_below hoo6 hbv21 (Nat.le_refl _)
  replace hoo7 := own_below hoo7 hbv21 (Nat.le_refl _)
  replace hoo8 := own_below hoo8 hbv21 (Nat.le_refl _)
  replace hoo9 := own_below hoo9 hbv21 (Nat.le_refl _)
  replace hoo10 := own_below hoo10 hbv21 (Nat.le_refl _)
  replace hoo11 := own_below hoo11 hbv21 (Nat.le_refl _)
  replace HB := HB.trans (hbv21.mono HB.size)
  have hszv21 := hbv21.size
  go_wp2_with fail
  go_ret
  exact ⟨rfl, HB⟩
end Go.Proofs.Ytdpkcnjoklnoeaa
