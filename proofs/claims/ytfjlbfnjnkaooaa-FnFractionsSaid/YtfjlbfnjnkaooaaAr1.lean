/- The exported operations on naturals (program), at naturals: sum, difference, product. -/
import Derived.Test.YtfjlbfnjnkaooaaNu1
import Derived.Test.YtfjlbfnjnkaooaaDvM
import Derived.Test.YtfjlbfnjnkaooaaDv
namespace Go.Proofs.Ytfjlbfnjnkaooaa
open Go.RowKit Limb
set_option linter.unusedVariables false
set_option linter.unusedSimpArgs false
theorem rdL2n {w : World} {A3 A4 : Option Addr} {n3 c3 n4 c4 T : Nat} {xs ys : List Int} (h1 : Rd w A3 n3 (ints xs)) (h2 : Rd w A4 n4 (ints ys)) (b3 : n3 ≤ 1000000000) (b4 : n4 ≤ 1000000000) :
    RdL (w.alloc (.cells #[.slice A3 n3 c3, .slice A4 n4 c4] T)) (some ⟨w.heap.size, 0, none⟩) 2 [xs, ys] := by
  refine ⟨[.slice A3 n3 c3, .slice A4 n4 c4], own_rd (own_lit w #[.slice A3 n3 c3, .slice A4 n4 c4] 2 T rfl (by omega)), rfl, ?_⟩
  intro i v zs hv hz
  match i, hv, hz with
  | 0, hv, hz =>
    obtain rfl : Value.slice A3 n3 c3 = v := by simpa using hv
    obtain rfl : xs = zs := by simpa using hz
    exact ⟨A3, n3, c3, rfl, b3, h1.alloc _⟩
  | 1, hv, hz =>
    obtain rfl : Value.slice A4 n4 c4 = v := by simpa using hv
    obtain rfl : ys = zs := by simpa using hz
    exact ⟨A4, n4, c4, rfl, b4, h2.alloc _⟩
  | i + 2, hv, hz => simp at hv
theorem nat_limbs {X : Nat} (h : (limbs X).length ≤ 40) : isNatB (limbs X) = true :=
  isNat_yes h (allIn_true.2 fun x hx => by have := ok_limbs X x hx; omega) (nt_limbs X)
theorem allNat2 {X Y : Nat} (h1 : (limbs X).length ≤ 40) (h2 : (limbs Y).length ≤ 40) : allNat [limbs X, limbs Y] = true := by simp [allNat, nat_limbs h1, nat_limbs h2]
theorem rd_len40 {w : World} {A : Option Addr} {n X : Nat} (hr : Rd w A n (ints (limbs X))) (h : (limbs X).length ≤ 40) : n ≤ 40 := by have h1 := hr.1; simp at h1; omega
set_option maxHeartbeats 1000000 in
theorem AddNaturals_any (w : World) (A : Option Addr) (n c X : Nat) (hr : Rd w A n (ints (limbs X))) (hX : (limbs X).length ≤ 40) (A' : Option Addr) (n' c' Y : Nat) (hr' : Rd w A' n' (ints (limbs Y))) (hY : (limbs Y).length ≤ 40) :
    Calls Try.prog 15 #[.slice A n c, .slice A' n' c'] w (RetSI w 2 (ints (fitOr (X + Y))) (fitCode (X + Y))) := by
  have hn := rd_len40 hr hX
  have hn' := rd_len40 hr' hY
  have HL := Lib.hid (rdL2n (c3 := c) (c4 := c') (T := 25) hr hr' (by omega) (by omega))
  have hall := allNat2 hX hY
  have HS : Hid ((limbs (X + Y)).length ≤ 81) := Lib.hid (by have := limbs_len_add X Y; omega)
  clear hX hY
  go_enter Try.func15, Try.ntmps15
  go_wp2_with fail
  refine (naturals_any _ _ _ _ _ HL.out (by omega)).mono ?_
  rw [hall]
  rintro e w1 ⟨rfl, rfl⟩
  have HB0 := Lib.hid (below_new w (.cells #[.slice A n c, .slice A' n' c'] 25))
  go_wp2_with fail
  refine (add_any _ _ _ _ X (hr.alloc _) (by omega) _ _ _ Y (hr'.alloc _) (by omega)).mono ?_
  rintro e w2 ⟨A2, n2, c2, rfl, ho2, hb2⟩
  have hn2 : n2 ≤ 1000 := own_len_le ho2 (Nat.le_trans HS.out (by omega))
  go_wp2_with fail
  refine (limited_any _ _ _ _ _ _ ho2 (by omega)).mono ?_
  rintro e w3 ⟨⟨A3, n3, c3, rfl, ho3⟩, rfl⟩
  go_wp2_with fail
  go_ret2
  exact ⟨A3, n3, c3, rfl, own_base ho3 (by simp), HB0.out.trans (hb2.mono (by simp))⟩
set_option maxHeartbeats 1000000 in
theorem MultiplyNaturals_any (w : World) (A : Option Addr) (n c X : Nat) (hr : Rd w A n (ints (limbs X))) (hX : (limbs X).length ≤ 40) (A' : Option Addr) (n' c' Y : Nat) (hr' : Rd w A' n' (ints (limbs Y))) (hY : (limbs Y).length ≤ 40) :
    Calls Try.prog 13 #[.slice A n c, .slice A' n' c'] w (RetSI w 2 (ints (fitOr (X * Y))) (fitCode (X * Y))) := by
  have hn := rd_len40 hr hX
  have hn' := rd_len40 hr' hY
  have HL := Lib.hid (rdL2n (c3 := c) (c4 := c') (T := 25) hr hr' (by omega) (by omega))
  have hall := allNat2 hX hY
  have HS : Hid ((limbs (X * Y)).length ≤ 81) := Lib.hid (by have := limbs_len_mul X Y; omega)
  clear hX hY
  go_enter Try.func13, Try.ntmps13
  go_wp2_with fail
  refine (naturals_any _ _ _ _ _ HL.out (by omega)).mono ?_
  rw [hall]
  rintro e w1 ⟨rfl, rfl⟩
  have HB0 := Lib.hid (below_new w (.cells #[.slice A n c, .slice A' n' c'] 25))
  go_wp2_with fail
  refine (multiply_any _ _ _ _ X (hr.alloc _) (by omega) _ _ _ Y (hr'.alloc _) (by omega)).mono ?_
  rintro e w2 ⟨A2, n2, c2, rfl, ho2, hb2⟩
  have hn2 : n2 ≤ 1000 := own_len_le ho2 (Nat.le_trans HS.out (by omega))
  go_wp2_with fail
  refine (limited_any _ _ _ _ _ _ ho2 (by omega)).mono ?_
  rintro e w3 ⟨⟨A3, n3, c3, rfl, ho3⟩, rfl⟩
  go_wp2_with fail
  go_ret2
  exact ⟨A3, n3, c3, rfl, own_base ho3 (by simp), HB0.out.trans (hb2.mono (by simp))⟩
set_option maxHeartbeats 1000000 in
theorem SubtractNaturals_any (w : World) (A : Option Addr) (n c X : Nat) (hr : Rd w A n (ints (limbs X))) (hX : (limbs X).length ≤ 40) (A' : Option Addr) (n' c' Y : Nat) (hr' : Rd w A' n' (ints (limbs Y))) (hY : (limbs Y).length ≤ 40) (hXY : Y ≤ X) :
    Calls Try.prog 16 #[.slice A n c, .slice A' n' c'] w (RetSI w 2 (ints (limbs (X - Y))) 0) := by
  have hn := rd_len40 hr hX
  have hn' := rd_len40 hr' hY
  have HL := Lib.hid (rdL2n (c3 := c) (c4 := c') (T := 25) hr hr' (by omega) (by omega))
  have hall := allNat2 hX hY
  have HXY := Lib.hid hXY
  have hcmp : ¬ cmpN X Y < 0 := by
    have := (cmpN_le Y X).2 hXY
    unfold cmpN at *
    split at this <;> split <;> omega
  clear hX hY hXY
  go_enter Try.func16, Try.ntmps16
  go_wp2_with fail
  refine (naturals_any _ _ _ _ _ HL.out (by omega)).mono ?_
  rw [hall]
  rintro e w1 ⟨rfl, rfl⟩
  have HB0 := Lib.hid (below_new w (.cells #[.slice A n c, .slice A' n' c'] 25))
  have HR := Lib.hid (hr.alloc (.cells #[.slice A n c, .slice A' n' c'] 25)); have HR' := Lib.hid (hr'.alloc (.cells #[.slice A n c, .slice A' n' c'] 25))
  generalize w.alloc (.cells #[.slice A n c, .slice A' n' c'] 25) = w1 at *
  go_wp2_with fail
  refine (compareNaturals_any _ _ _ _ X HR.out (by omega) _ _ _ Y HR'.out (by omega)).mono ?_
  rintro e w2 ⟨rfl, hb2⟩
  generalize cmpN X Y = cv at *
  go_wp2_with fail
  refine (subtract_any _ _ _ _ X (HR.out.below hb2 (Nat.le_refl _)) (by omega) _ _ _ Y (HR'.out.below hb2 (Nat.le_refl _)) HXY.out).mono ?_
  rintro e w3 ⟨A3, n3, c3, rfl, ho3, hb3⟩
  go_wp2_with fail
  go_ret2
  exact ⟨A3, n3, c3, rfl, own_base ho3 (Nat.le_trans HB0.out.size hb2.size), HB0.out.trans ((hb2.trans (hb3.mono hb2.size)).mono HB0.out.size)⟩
/-- b10Nums: two lists are equal. -/
def eqTo (xs ys : List Int) : Nat → Bool
  | 0 => true
  | k + 1 => eqTo xs ys k && decide (xs[k]? = ys[k]?)
set_option maxHeartbeats 1000000 in
theorem b10Nums_same (w : World) (A : Option Addr) (n c : Nat) (xs : List Int) (hr : Rd w A n (ints xs)) (A' : Option Addr) (n' c' : Nat) (hr' : Rd w A' n' (ints xs)) (hn : n ≤ 1000000) :
    Calls Try.prog 11 #[.slice A n c, .slice A' n' c'] w (fun e w' => e = .returned (.bool true) ∧ Below w.heap.size w w') := by
  have HL : Hid (xs.length = n) := Lib.hid (by simpa using hr.1)
  obtain rfl : n' = n := by have h := hr'.1; have h2 := HL.out; simp at h; omega
  go_enter Try.func11, Try.ntmps11
  go_wp2_with fail
  go_loopw [5] (fun q wr => ∃ k : Nat, q = .int .i64 k ∧ k ≤ n' ∧ Below w.heap.size w wr) (fun q _ => n' - (intOf q).toNat)
  case atStart => exact ⟨0, rfl, Nat.zero_le _, Below.refl _ _⟩
  case round =>
    obtain ⟨k, rfl, hk, hb⟩ := hrel
    by_cases h1 : k < n'
    · have h1' : (k : Int) < (n' : Int) := by omega
      obtain ⟨x, hx⟩ := get_some (xs := xs) (k := k) (by rw [HL.out]; omega)
      obtain ⟨b1, o1, e1, hl1, hc1⟩ := hr.at_ (ints_get hx)
      obtain ⟨b2, o2, e2, hl2, hc2⟩ := hr'.at_ (ints_get hx)
      subst e1 e2
      have q1 := (hb.cell (p := ⟨b1, o1 + k, none⟩) hl1).trans hc1
      have q2 := (hb.cell (p := ⟨b2, o2 + k, none⟩) hl2).trans hc2
      have HB := Lib.hid hb
      clear hx hc1 hc2 hb
      go_wp2_with fail
      go_region
      go_wp2_with fail
      go_roundw
      case rel => exact ⟨k + 1, by go_num, by omega, by first | exact HB.out.drew | exact HB.out⟩
      case measure => simp only [intOf]; omega
    · have h1' : ¬ (k : Int) < (n' : Int) := by omega
      go_wp2_with fail
      go_ret
      exact ⟨rfl, hb⟩
end Go.Proofs.Ytfjlbfnjnkaooaa
