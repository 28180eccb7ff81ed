/- SignedNumber: tests for naturals, differences, a copy of a slice. -/
import Derived.Test.YtdpkcnjoklnoeaaSet
import Derived.Test.YtdpkcnjoklnoeaaMath2
import Derived.Lib.LazyBuf
namespace Go.Proofs.Ytdpkcnjoklnoeaa
open Go.RowKit Limb

def isNatB (xs : List Int) : Bool := decide (xs.length ≤ 40) && allIn xs 0 999999 && decide (xs.getLast? ≠ some 0)
theorem isNat_limbs {xs : List Int} (h : isNatB xs = true) : ∃ X : Nat, xs = limbs X ∧ (limbs X).length ≤ 40 := by
  simp only [isNatB, Bool.and_eq_true, decide_eq_true_eq] at h
  have ok : Ok xs := fun x hx => by have := allIn_true.1 h.1.2 x hx; omega
  have e := limbs_of ok (show NT xs from h.2)
  exact ⟨_, e, by rw [← e]; exact h.1.1⟩
theorem isNat_yes {xs : List Int} (h1 : xs.length ≤ 40) (h2 : allIn xs 0 999999 = true) (h3 : xs.getLast? ≠ some 0) : isNatB xs = true := by
  simp only [isNatB, h2, Bool.and_eq_true, decide_eq_true_eq]; exact ⟨⟨h1, trivial⟩, h3⟩
theorem isNat_long {xs : List Int} (h1 : ¬ xs.length ≤ 40) : isNatB xs = false := by simp [isNatB, h1]
theorem isNat_out {xs : List Int} (h2 : allIn xs 0 999999 = false) : isNatB xs = false := by simp [isNatB, h2]
theorem isNat_zero {xs : List Int} (h3 : xs.getLast? = some 0) : isNatB xs = false := by simp [isNatB, h3]
theorem last_get {xs : List Int} {n : Nat} {x : Int} (h : xs.length = n + 1) (hx : xs[n]? = some x) : xs.getLast? = some x := by
  rw [List.getLast?_eq_getElem?, h]; exact hx
theorem last_none {xs : List Int} (h : xs.length = 0) : xs.getLast? = none := by
  rw [List.eq_nil_of_length_eq_zero h]; rfl

set_option maxHeartbeats 1000000 in
theorem isNatural_any (w : World) (A : Option Addr) (n c : Nat) (xs : List Int) (hr : Rd w A n (ints xs)) (hn : n ≤ 1099511627776) :
    Calls Try.prog 65 #[.slice A n c] w fun e w' => e = .returned (.bool (isNatB xs)) ∧ w = w' := by
  have HL : Hid (xs.length = n) := Lib.hid (by simpa using hr.1)
  by_cases h40 : n ≤ 40
  · have b1 : decide ((n : Int) ≤ 40) = true := by simp; omega
    by_cases hall : allIn xs 0 999999 = true
    · rcases Nat.eq_zero_or_pos n with h0 | h0
      · have HF := Lib.hid (isNat_yes (by rw [HL.out]; omega) hall (by rw [last_none (by rw [HL.out]; omega)]; simp))
        have b2 : ((n : Int) == 0) = true := by simp; omega
        clear h0
        go_enter Try.func65, Try.ntmps65
        go_wp2_with (go_at_call 54; refine (allWithin_any _ _ _ _ _ hr hn _ _).mono ?_; rintro e w' ⟨rfl, rfl⟩)
        go_ret
        exact ⟨by rw [HF.out]; rfl, rfl⟩
      · obtain ⟨m, rfl⟩ : ∃ m, n = m + 1 := ⟨n - 1, by omega⟩
        obtain ⟨x, hx⟩ := get_some (xs := xs) (k := m) (by rw [HL.out]; omega)
        obtain ⟨b, off, rfl, hbs, hc⟩ := hr.at_ (ints_get hx)
        have hlast := last_get HL.out hx
        have b2 : (((m + 1 : Nat) : Int) == 0) = false := by simp; omega
        have b2' : ((m : Int) + 1 == 0) = false := by simp; omega
        clear hx h0
        by_cases hz : x = 0
        · have HF := Lib.hid (isNat_zero (xs := xs) (by rw [hlast, hz]))
          have b3 : (x != 0) = false := by simpa using hz
          clear hlast hz
          go_enter Try.func65, Try.ntmps65
          go_wp2_with (go_at_call 54; refine (allWithin_any _ _ _ _ _ hr hn _ _).mono ?_; rintro e w' ⟨rfl, rfl⟩)
          go_ret
          exact ⟨by rw [HF.out]; rfl, rfl⟩
        · have HF := Lib.hid (isNat_yes (by rw [HL.out]; omega) hall (by rw [hlast]; simpa using hz))
          have b3 : (x != 0) = true := by simpa using hz
          clear hlast hz
          go_enter Try.func65, Try.ntmps65
          go_wp2_with (go_at_call 54; refine (allWithin_any _ _ _ _ _ hr hn _ _).mono ?_; rintro e w' ⟨rfl, rfl⟩)
          go_ret
          exact ⟨by rw [HF.out]; rfl, rfl⟩
    · have hall' : allIn xs 0 999999 = false := by simpa using hall
      have HF := Lib.hid (isNat_out hall')
      clear hall
      go_enter Try.func65, Try.ntmps65
      go_wp2_with (go_at_call 54; refine (allWithin_any _ _ _ _ _ hr hn _ _).mono ?_; rintro e w' ⟨rfl, rfl⟩)
      go_ret
      exact ⟨by rw [HF.out]; rfl, rfl⟩
  · have b1 : decide ((n : Int) ≤ 40) = false := by simp; omega
    have HF := Lib.hid (isNat_long (xs := xs) (by rw [HL.out]; omega))
    go_enter Try.func65, Try.ntmps65
    go_wp2_with fail
    go_ret
    exact ⟨by rw [HF.out]; rfl, rfl⟩

set_option maxHeartbeats 1000000 in
theorem l02Is_any (w : World) (A : Option Addr) (n c : Nat) (xs : List Int) (hr : Rd w A n (ints xs)) (hn : n ≤ 1099511627776) :
    Calls Try.prog 62 #[.slice A n c] w fun e w' => e = .returned (.bool (isNatB xs)) ∧ w = w' := by
  have HL : Hid (xs.length = n) := Lib.hid (by simpa using hr.1)
  by_cases h40 : n ≤ 40
  · go_enter Try.func62, Try.ntmps62
    go_wp2_with fail
    go_loop [3] (fun q => ∃ k : Nat, k ≤ n ∧ q = .int .i64 k ∧ Hid (allIn (xs.take k) 0 999999 = true)) (fun q => n - (intOf q).toNat)
    case atStart => exact ⟨0, Nat.zero_le _, rfl, Lib.hid (by simp [allIn])⟩
    case round =>
      obtain ⟨k, hk, rfl, hall⟩ := hrel
      by_cases h1 : k < n
      · obtain ⟨x, hx⟩ := get_some (xs := xs) (k := k) (by rw [HL.out]; omega)
        obtain ⟨b, off, rfl, hbk, hcx⟩ := hr.at_ (ints_get hx)
        have HX := Lib.hid hx
        clear hx
        by_cases hin : inB x 0 999999 = true
        · go_wp2_with (go_at_call 48; refine (l00In_any _ _ _ _).mono ?_; rintro e w' ⟨rfl, rfl⟩)
          go_round
          case rel => exact ⟨k + 1, by omega, by go_num, Lib.hid (allIn_take_step hall.out HX.out hin)⟩
          case measure => simp [intOf]; omega
        · have hin' : inB x 0 999999 = false := by simpa using hin
          clear hin
          go_wp2_with (go_at_call 48; refine (l00In_any _ _ _ _).mono ?_; rintro e w' ⟨rfl, rfl⟩)
          go_ret
          exact ⟨by rw [isNat_out (allIn_out HX.out hin')]; rfl, rfl⟩
      · have hall2 := hall.out
        rw [List.take_of_length_le (by rw [HL.out]; omega)] at hall2
        have HA2 := Lib.hid hall2
        clear hall2
        rcases Nat.eq_zero_or_pos n with h0 | h0
        · have HF := Lib.hid (isNat_yes (by rw [HL.out]; omega) HA2.out (by rw [last_none (by rw [HL.out]; omega)]; simp))
          have b2 : ((n : Int) == 0) = true := by simp; omega
          clear h0
          go_wp2_with fail
          go_ret
          exact ⟨by rw [HF.out]; rfl, rfl⟩
        · obtain ⟨m, rfl⟩ : ∃ m, n = m + 1 := ⟨n - 1, by omega⟩
          obtain ⟨x, hx⟩ := get_some (xs := xs) (k := m) (by rw [HL.out]; omega)
          obtain ⟨b, off, rfl, hbs, hc⟩ := hr.at_ (ints_get hx)
          have hlast := last_get HL.out hx
          have b2 : (((m + 1 : Nat) : Int) == 0) = false := by simp; omega
          have b2' : ((m : Int) + 1 == 0) = false := by simp; omega
          clear hx h0
          by_cases hz : x = 0
          · have HF := Lib.hid (isNat_zero (xs := xs) (by rw [hlast, hz]))
            have b3 : (x != 0) = false := by simpa using hz
            clear hlast hz
            go_wp2_with fail
            go_ret
            exact ⟨by rw [HF.out]; rfl, rfl⟩
          · have HF := Lib.hid (isNat_yes (by rw [HL.out]; omega) HA2.out (by rw [hlast]; simpa using hz))
            have b3 : (x != 0) = true := by simpa using hz
            clear hlast hz
            go_wp2_with fail
            go_ret
            exact ⟨by rw [HF.out]; rfl, rfl⟩
  · have HF := Lib.hid (isNat_long (xs := xs) (by rw [HL.out]; omega))
    go_enter Try.func62, Try.ntmps62
    go_wp2_with fail
    go_ret
    exact ⟨by rw [HF.out]; rfl, rfl⟩

set_option maxHeartbeats 400000 in
theorem clone_any (w : World) (A : Option Addr) (n c : Nat) (xs : List Int) (hr : Rd w A n (ints xs)) (hn : n ≤ 1000000000) :
    Calls Try.prog 82 #[.slice A n c] w (RetS w 2 (ints xs)) := by
  have hnil := fun (w : World) => Lib.run_eql_slice_nil (P := Try.prog) w 22 2 A n c 0 0 Try.underlying22
  cases A with
  | none =>
    have hx : xs = [] := by
      rcases Nat.eq_zero_or_pos n with h | h
      · have := hr.1; simp at this; exact List.eq_nil_of_length_eq_zero (by omega)
      · obtain ⟨_, _, h', _⟩ := hr.2 h; cases h'
    subst hx
    go_enter Try.func82, Try.ntmps82
    go_wp2_with fail
    go_ret
    exact ⟨none, 0, 0, rfl, own_nil _ _ _, Below.refl _ _⟩
  | some a =>
    have hown := own_lit w #[] 0 2 rfl (by omega)
    go_enter Try.func82, Try.ntmps82
    go_wp2_with (at_builtin; go_must (refine wpList_appS Try.eltI rfl _ _ rfl (w.alloc (.cells #[] 2)) w.heap.size _ 0 _ (by rfl) hown _ n c (ints xs) (by rfl) (hr.alloc _) ints_one (by simp) (by omega) ?_); rintro A1 c1 w1 hown1 hb1)
    go_ret
    simp only [Nat.zero_add, List.nil_append] at hown1
    exact ⟨A1, n, c1, rfl, hown1, (below_new _ _).trans hb1⟩

set_option maxHeartbeats 1000000 in
theorem l02Sub_any (w : World) (A : Option Addr) (n c : Nat) (X : Nat) (hr : Rd w A n (ints (limbs X))) (hn : n ≤ 1000000) (A' : Option Addr) (n' c' : Nat) (Y : Nat) (hr' : Rd w A' n' (ints (limbs Y))) (hXY : Y ≤ X) :
    Calls Try.prog 63 #[.slice A n c, .slice A' n' c'] w (RetS w 2 (ints (limbs (X - Y)))) := by
  have HL : Hid ((limbs X).length = n) := Lib.hid (by simpa using hr.1)
  have HL' : Hid ((limbs Y).length = n') := Lib.hid (by simpa using hr'.1)
  have hn' : n' ≤ n := by rw [← HL.out, ← HL'.out]; exact limbs_len_mono hXY
  have HF := Lib.hid (sub_limbs X Y hXY)
  have HST := Lib.hid (SubRel.start hXY)
  have okx := ok_limbs X
  have oky := ok_limbs Y
  generalize limbs X = xs at hr HL HF HST okx
  generalize limbs Y = ys at hr' HL' HF HST oky
  clear hXY
  go_enter Try.func63, Try.ntmps63
  go_wp2_with fail
  go_loopw [5, 6, 7] (fun v q i wr => ∃ (k : Nat) (cc : Int) (done : List Int), i = .int .i64 k ∧ q = .int .i64 cc ∧ k ≤ n ∧ 0 ≤ cc ∧ cc ≤ 1 ∧ Hid (SubRel xs ys k cc done) ∧ wr.ownsRow w.heap.size 2 1 v k (ints done) ∧ Below w.heap.size w wr) (fun _ _ i _ => n - (intOf i).toNat)
  case atStart => exact ⟨0, 0, [], rfl, rfl, by omega, by omega, by omega, HST, own_lit w #[] 0 2 rfl (by omega), below_new _ _⟩
  case round =>
    obtain ⟨k, cc, done, rfl, rfl, hk, hc0, hc1, hrl, hown, hb⟩ := hrel
    obtain ⟨Ao, co, rfl, hco, _⟩ := own_form hown
    have hbs := hb.size
    by_cases h1 : k < n
    · obtain ⟨x, hx⟩ := get_some (xs := xs) (k := k) (by rw [HL.out]; omega)
      obtain ⟨hx0, hx1⟩ := ok_get okx hx
      obtain ⟨b, off, rfl, hbk, hcx⟩ := hr.at_ (ints_get hx)
      have hcx1 := (hb.cell (p := ⟨b, off + k, none⟩) hbk).trans hcx
      by_cases h2 : k < n'
      · obtain ⟨y, hy⟩ := get_some (xs := ys) (k := k) (by rw [HL'.out]; omega)
        obtain ⟨hy0, hy1⟩ := ok_get oky hy
        obtain ⟨b', off', rfl, hbk', hcy⟩ := hr'.at_ (ints_get hy)
        have hcy1 := (hb.cell (p := ⟨b', off' + k, none⟩) hbk').trans hcy
        have hS := hrl.out.both hx hy
        clear hx hy hcx hcy
        by_cases h3 : x - cc - y < 0
        · rw [if_pos h3] at hS
          have HS := Lib.hid hS; clear hS
          go_wp2_with (at_builtin; go_must (refine wpList_app1 Try.eltI rfl _ _ rfl wr w.heap.size _ k _ (by rfl) hown _ (by rfl) (by rfl) (by omega) (by omega) ?_); rintro A1 c1 w1 hown1 hb1)
          go_roundw
          case rel => exact ⟨k + 1, 1, done ++ [_], by go_num, rfl, by omega, by omega, by omega, Lib.hid HS.out.1, by rw [ints_snoc] at hown1; exact hown1, hb.trans hb1⟩
          case measure => simp [intOf]; omega
        · rw [if_neg h3] at hS
          have HS := Lib.hid hS; clear hS
          go_wp2_with (at_builtin; go_must (refine wpList_app1 Try.eltI rfl _ _ rfl wr w.heap.size _ k _ (by rfl) hown _ (by rfl) (by rfl) (by omega) (by omega) ?_); rintro A1 c1 w1 hown1 hb1)
          go_roundw
          case rel => exact ⟨k + 1, 0, done ++ [_], by go_num, rfl, by omega, by omega, by omega, Lib.hid HS.out, by rw [ints_snoc] at hown1; exact hown1, hb.trans hb1⟩
          case measure => simp [intOf]; omega
      · have hS := hrl.out.left hx (by rw [HL'.out]; omega)
        clear hx hcx
        by_cases h3 : x - cc < 0
        · rw [if_pos h3] at hS
          have HS := Lib.hid hS; clear hS
          go_wp2_with (at_builtin; go_must (refine wpList_app1 Try.eltI rfl _ _ rfl wr w.heap.size _ k _ (by rfl) hown _ (by rfl) (by rfl) (by omega) (by omega) ?_); rintro A1 c1 w1 hown1 hb1)
          go_roundw
          case rel => exact ⟨k + 1, 1, done ++ [_], by go_num, rfl, by omega, by omega, by omega, Lib.hid HS.out.1, by rw [ints_snoc] at hown1; exact hown1, hb.trans hb1⟩
          case measure => simp [intOf]; omega
        · rw [if_neg h3] at hS
          have HS := Lib.hid hS; clear hS
          go_wp2_with (at_builtin; go_must (refine wpList_app1 Try.eltI rfl _ _ rfl wr w.heap.size _ k _ (by rfl) hown _ (by rfl) (by rfl) (by omega) (by omega) ?_); rintro A1 c1 w1 hown1 hb1)
          go_roundw
          case rel => exact ⟨k + 1, 0, done ++ [_], by go_num, rfl, by omega, by omega, by omega, Lib.hid HS.out, by rw [ints_snoc] at hown1; exact hown1, hb.trans hb1⟩
          case measure => simp [intOf]; omega
    · go_wp2_with (go_at_call 83; refine (l02Trim_any _ w.heap.size _ k co _ hown (by omega)).mono ?_; rintro e w2 ⟨rfl, rfl⟩)
      go_ret
      rw [← HF.out, hrl.out.stop (by rw [HL.out]; omega)]
      exact ⟨Ao, _, co, rfl, own_trim hown, hb⟩

/-- The first limb with the borrow taken off. -/
def dec (c : Int) : List Int → List Int
  | [] => []
  | x :: xs => (x - c) :: xs
theorem dec_zero (xs : List Int) : dec 0 xs = xs := by cases xs <;> simp [dec]
theorem dec_drop {xs : List Int} {k : Nat} {x c : Int} (hx : xs[k]? = some x) : dec c (xs.drop k) = (x - c) :: xs.drop (k + 1) := by rw [drop_get hx, dec]

theorem sub_set1 {done : List Int} {k : Nat} (h : done.length = k) (r : List Int) (a v : Int) : (ints (done ++ a :: r)).set k (.int .i64 v) = ints ((done ++ [v]) ++ dec 0 r) := by
  rw [dec_zero]
  have e := set_mid [] done r a v k (by simpa using h)
  rwa [List.nil_append, List.nil_append] at e
theorem sub_same {done : List Int} {k : Nat} (h : done.length = k) {r : List Int} {a : Int} : (ints (done ++ a :: r)).set k (.int .i64 a) = ints (done ++ a :: r) := by
  rw [sub_set1 h, dec_zero]; simp
theorem sub_set2 {done xs : List Int} {k : Nat} (h : done.length = k) {z : Int} (hz : xs[k + 1]? = some z) (a v : Int) (u : Value) :
    (((ints (done ++ a :: xs.drop (k + 1))).set k u).set k (.int .i64 v)).set (k + 1) (.int .i64 (z - 1)) = ints ((done ++ [v]) ++ dec 1 (xs.drop (k + 1))) := by
  rw [List.set_set, sub_set1 h, dec_zero, drop_get hz, dec]
  have e := set_mid [] (done ++ [v]) (xs.drop (k + 1 + 1)) z (z - 1) (k + 1) (by simp [h])
  rw [List.nil_append, List.nil_append] at e
  rw [e]; simp

set_option maxHeartbeats 4000000 in
theorem subtract_any (w : World) (A : Option Addr) (n c : Nat) (X : Nat) (hr : Rd w A n (ints (limbs X))) (hn : n ≤ 1000000) (A' : Option Addr) (n' c' : Nat) (Y : Nat) (hr' : Rd w A' n' (ints (limbs Y))) (hXY : Y ≤ X) :
    Calls Try.prog 66 #[.slice A n c, .slice A' n' c'] w (RetS w 2 (ints (limbs (X - Y)))) := by
  have HL : Hid ((limbs X).length = n) := Lib.hid (by simpa using hr.1)
  have HL' : Hid ((limbs Y).length = n') := Lib.hid (by simpa using hr'.1)
  have hn' : n' ≤ n := by rw [← HL.out, ← HL'.out]; exact limbs_len_mono hXY
  have HF := Lib.hid (sub_limbs X Y hXY)
  have HST := Lib.hid (SubRel.start hXY)
  have okx := ok_limbs X
  have oky := ok_limbs Y
  generalize limbs X = xs at hr HL HF HST okx
  generalize limbs Y = ys at hr' HL' HF HST oky
  clear hXY
  go_enter Try.func66, Try.ntmps66
  go_wp2_with fail
  refine (clone_any _ _ _ _ xs hr (by omega)).mono ?_
  rintro e w1 ⟨A1, n1, c1, rfl, ho1, hb1⟩
  obtain rfl : n1 = n := by have h := ho1.1; simp at h; rw [← h, HL.out]
  go_wp2_with fail
  go_loopw [11] (fun i wr => ∃ (k : Nat) (cc : Int) (done : List Int), i = .int .i64 k ∧ k ≤ n1 ∧ 0 ≤ cc ∧ cc ≤ 1 ∧ Hid (SubRel xs ys k cc done) ∧ wr.ownsRow w.heap.size 2 1 (.slice A1 n1 c1) n1 (ints (done ++ dec cc (xs.drop k))) ∧ Below w.heap.size w wr) (fun i _ => n1 - (intOf i).toNat)
  case atStart => exact ⟨0, 0, [], rfl, by omega, by omega, by omega, HST, by simpa [dec_zero] using ho1, hb1⟩
  case round =>
    obtain ⟨k, cc, done, rfl, hk, hc0, hc1, hrl, hown, hb⟩ := hrel
    clear ho1 hb1
    have hbs := hb.size
    by_cases h1 : k < n1
    · obtain ⟨x, hx⟩ := get_some (xs := xs) (k := k) (by rw [HL.out]; omega)
      obtain ⟨hx0, hx1⟩ := ok_get okx hx
      rw [dec_drop hx] at hown
      have hdl : done.length = k := hrl.out.1
      have hget : (ints (done ++ (x - cc) :: xs.drop (k + 1)))[k]? = some (.int .i64 (x - cc)) := ints_get (by rw [List.getElem?_append_right (by omega), hdl]; simp)
      obtain ⟨g, rfl, hgb, hgs, hc2, hc3⟩ := own_get hown hget
      have hnext : k + 1 < n1 → ∃ z, xs[k + 1]? = some z ∧ 0 ≤ z ∧ z < 1000000 ∧ wr.cell? ⟨g, k + 1, none⟩ = some (.int .i64 z) ∧ wr.frozen? ⟨g, k + 1, none⟩ = false := by
        intro hk1
        obtain ⟨z, hz⟩ := get_some (xs := xs) (k := k + 1) (by rw [HL.out]; omega)
        obtain ⟨hz0, hz1⟩ := ok_get okx hz
        have hgz : (ints (done ++ (x - cc) :: xs.drop (k + 1)))[k + 1]? = some (.int .i64 z) := ints_get (by rw [List.getElem?_append_right (by omega), hdl, show k + 1 - k = 1 by omega, drop_get hz]; simp)
        obtain ⟨g', hg', _, _, hc4, hc5⟩ := own_get hown hgz
        obtain rfl : g = g' := by simpa using hg'
        exact ⟨z, hz, hz0, hz1, hc4, hc5⟩
      have HN := Lib.hid hnext
      have HO := Lib.hid hown
      have HB := Lib.hid hb
      have HDL := Lib.hid hdl
      clear hnext hget hown hb hdl hbs
      by_cases h2 : k < n'
      · obtain ⟨y, hy⟩ := get_some (xs := ys) (k := k) (by rw [HL'.out]; omega)
        obtain ⟨hy0, hy1⟩ := ok_get oky hy
        obtain ⟨b', off', rfl, hbk', hcy⟩ := hr'.at_ (ints_get hy)
        have hcy1 := (HB.out.cell (p := ⟨b', off' + k, none⟩) hbk').trans hcy
        have hS := hrl.out.both hx hy
        have hne : b' < g := by omega
        clear hx hy hcy
        have q1 : IntKind.i64.wrap (x - cc - y) = x - cc - y := IntWalk.i64_in _ (by omega)
        by_cases h3 : x - cc - y < 0
        · rw [if_pos h3] at hS
          have HS := Lib.hid hS; clear hS
          have hk1 : k + 1 < n1 := by have := HS.out.2; rw [HL.out] at this; exact this
          obtain ⟨z, hz, hz0, hz1, hc4, hc5⟩ := HN.out hk1
          have HZ := Lib.hid hz
          clear hz
          go_wp2_with fail
          go_region
          clear q1
          go_wp2_with fail
          go_roundw
          case rel =>
            refine ⟨k + 1, 1, done ++ [x - cc - y + 1000000], by go_num, by omega, by omega, by omega, Lib.hid HS.out.1, ?_, ?_⟩
            · rw [← sub_set2 HDL.out HZ.out (x - cc) (x - cc - y + 1000000) (.int .i64 (x - cc - y))]
              exact own_put (own_put (own_put HO.out k _) k _) (k + 1) _
            · exact (((HB.out.setCell (p := ⟨g, k, none⟩) hgb _).setCell (p := ⟨g, k, none⟩) hgb _).setCell (p := ⟨g, k + 1, none⟩) hgb _).drew
          case measure => simp [intOf]; omega
        · rw [if_neg h3] at hS
          have HS := Lib.hid hS; clear hS
          go_wp2_with fail
          go_region
          clear q1
          go_wp2_with fail
          go_roundw
          case rel =>
            refine ⟨k + 1, 0, done ++ [x - cc - y], by go_num, by omega, by omega, by omega, Lib.hid HS.out, ?_, ?_⟩
            · rw [← sub_set1 HDL.out (xs.drop (k + 1)) (x - cc) (x - cc - y)]
              exact own_put HO.out k _
            · exact (HB.out.setCell (p := ⟨g, k, none⟩) hgb _).drew
          case measure => simp [intOf]; omega
      · have hS := hrl.out.left hx (by rw [HL'.out]; omega)
        clear hx
        by_cases h3 : x - cc < 0
        · rw [if_pos h3] at hS
          have HS := Lib.hid hS; clear hS
          have hk1 : k + 1 < n1 := by have := HS.out.2; rw [HL.out] at this; exact this
          obtain ⟨z, hz, hz0, hz1, hc4, hc5⟩ := HN.out hk1
          have HZ := Lib.hid hz
          clear hz
          go_wp2_with fail
          go_roundw
          case rel =>
            refine ⟨k + 1, 1, done ++ [x - cc + 1000000], by go_num, by omega, by omega, by omega, Lib.hid HS.out.1, ?_, ?_⟩
            · rw [← sub_set2 HDL.out HZ.out (x - cc) (x - cc + 1000000) (.int .i64 (x - cc)), sub_same HDL.out]
              exact own_put (own_put HO.out k _) (k + 1) _
            · exact (HB.out.setCell (p := ⟨g, k, none⟩) hgb _).setCell (p := ⟨g, k + 1, none⟩) hgb _
          case measure => simp [intOf]; omega
        · rw [if_neg h3] at hS
          have HS := Lib.hid hS; clear hS
          go_wp2_with fail
          go_roundw
          case rel =>
            refine ⟨k + 1, 0, done ++ [x - cc], by go_num, by omega, by omega, by omega, Lib.hid HS.out, ?_, HB.out⟩
            have h := HO.out
            rw [dec_zero]
            simpa using h
          case measure => simp [intOf]; omega
    · go_wp2_with (go_at_call 85; refine (trimmed_any _ w.heap.size _ n1 c1 _ hown (by omega)).mono ?_; rintro e w2 ⟨rfl, rfl⟩)
      go_ret
      have e : done ++ dec cc (xs.drop k) = subL xs ys 0 := by
        rw [hrl.out.stop (by rw [HL.out]; omega), List.drop_of_length_le (by rw [HL.out]; omega)]; simp [dec]
      rw [e] at hown ⊢
      rw [← HF.out]
      exact ⟨A1, _, c1, rfl, own_trim hown, hb⟩
end Go.Proofs.Ytdpkcnjoklnoeaa
