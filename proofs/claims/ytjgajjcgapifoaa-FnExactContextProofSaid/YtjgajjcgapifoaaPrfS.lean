/- Proofs by contexts: the reference's small functions. -/
import Derived.Test.YtjgajjcgapifoaaPrfN
import Derived.Test.YtjgajjcgapifoaaCut
import Derived.Test.YtjgajjcgapifoaaCfgS
namespace Go.Proofs.Ytjgajjcgapifoaa
open Go.RowKit
set_option linter.unusedVariables false
set_option linter.unusedSimpArgs false
set_option maxHeartbeats 1000000 in
theorem l03Is_any (w : World) (A : Option Addr) (n c : Nat) (xs : List Int) (hr : Rd w A n (ints xs)) (hn : n ≤ 1000000000) :
    Calls Try.prog 120 #[.slice A n c] w fun e w' => e = .returned (.bool (wordB xs)) ∧ w = w' := by
  have HL : Hid (xs.length = n) := Lib.hid (by simpa using hr.1)
  go_enter Try.func120, Try.ntmps120
  go_wp2_with fail
  go_loop [3] (fun q => ∃ k : Nat, k ≤ n ∧ q = .int .i64 k ∧ Hid (allIn (xs.take k) 0 9 = true)) (fun q => n - (intOf q).toNat)
  case atStart => exact ⟨0, Nat.zero_le _, rfl, Lib.hid (by simp [allIn])⟩
  case round =>
    obtain ⟨k, hk, rfl, hall⟩ := hrel
    by_cases h1 : k < n
    · obtain ⟨x, hx⟩ := get_some (xs := xs) (k := k) (by rw [HL.out]; omega)
      obtain ⟨b, off, rfl, hbk, hcx⟩ := hr.at_ (ints_get hx)
      have HX := Lib.hid hx
      clear hx
      cases hin : inB x 0 9 with
      | true =>
        go_wp2_with (go_at_call 74; refine (l00In_any _ _ _ _).mono ?_; rintro e w' ⟨rfl, rfl⟩)
        go_round
        case rel => exact ⟨k + 1, by omega, by go_num, Lib.hid (allIn_take_step hall.out HX.out hin)⟩
        case measure => simp [intOf]; omega
      | false =>
        go_wp2_with (go_at_call 74; refine (l00In_any _ _ _ _).mono ?_; rintro e w' ⟨rfl, rfl⟩)
        go_ret
        exact ⟨by rw [wordB, allIn_out HX.out hin]; rfl, rfl⟩
    · have h := hall.out
      rw [List.take_of_length_le (by rw [HL.out]; omega)] at h
      have HO : Hid (wordB xs = decide ((n : Int) ≤ 400)) := Lib.hid (by rw [wordB, h, HL.out]; simp only [Bool.true_and, decide_eq_decide]; omega)
      clear h
      go_wp2_with fail
      go_ret
      exact ⟨by rw [HO.out]; rfl, rfl⟩
set_option maxHeartbeats 1000000 in
theorem l03All_any (w : World) (A : Option Addr) (n c : Nat) (xss : List (List Int)) (hr : RdL w A n xss) (hn : n ≤ 1000000000) :
    Calls Try.prog 119 #[.slice A n c] w fun e w' => e = .returned (.bool (xss.all wordB)) ∧ w = w' := by
  have HL : Hid (xss.length = n) := Lib.hid hr.len
  go_enter Try.func119, Try.ntmps119
  go_wp2_with fail
  go_loop [3] (fun q => ∃ k : Nat, k ≤ n ∧ q = .int .i64 k ∧ Hid ((xss.take k).all wordB = true)) (fun q => n - (intOf q).toNat)
  case atStart => exact ⟨0, Nat.zero_le _, rfl, Lib.hid (by simp)⟩
  case round =>
    obtain ⟨k, hk, rfl, hall⟩ := hrel
    by_cases h1 : k < n
    · obtain ⟨xs, hx⟩ := get_some (xs := xss) (k := k) (by rw [HL.out]; omega)
      obtain ⟨b, off, A', n', c', rfl, hbs, hc, hn', hr'⟩ := hr.at_ hx
      have HX := Lib.hid hx
      clear hx
      cases hin : wordB xs with
      | true =>
        have HIN := Lib.hid hin; clear hin
        go_wp2_with (go_at_call 120; refine (l03Is_any _ _ _ _ _ hr' (by omega)).mono ?_; rw [HIN.out]; rintro e w' ⟨rfl, rfl⟩)
        go_round
        case rel => exact ⟨k + 1, by omega, by go_num, Lib.hid (all_step hall.out HX.out HIN.out)⟩
        case measure => simp [intOf]; omega
      | false =>
        have HIN := Lib.hid hin; clear hin
        go_wp2_with (go_at_call 120; refine (l03Is_any _ _ _ _ _ hr' (by omega)).mono ?_; rw [HIN.out]; rintro e w' ⟨rfl, rfl⟩)
        go_ret
        exact ⟨by rw [all_out HX.out HIN.out]; rfl, rfl⟩
    · have h := hall.out
      rw [List.take_of_length_le (by rw [HL.out]; omega)] at h
      have HO := Lib.hid h
      clear h
      go_wp2_with fail
      go_ret
      exact ⟨by rw [HO.out]; rfl, rfl⟩
theorem okP_cases' (k : Int) (ns : List Int) (ws : List (List Int)) (n1 n2 : Nat) (h1 : ns.length = n1) (h2 : ws.length = n2) :
    (inB k 1 8 = false ∧ okP k ns ws = false) ∨ (inB k 1 8 = true ∧ 300 < n1 ∧ okP k ns ws = false) ∨ (inB k 1 8 = true ∧ ¬ 300 < n1 ∧ 300 < n2 ∧ okP k ns ws = false) ∨ (inB k 1 8 = true ∧ ¬ 300 < n1 ∧ ¬ 300 < n2 ∧ okP k ns ws = (allIn ns (-1000000000000) 1000000000000 && ws.all wordB)) := by
  subst h1 h2
  unfold okP
  cases inB k 1 8
  · left; simp
  · right
    by_cases h1 : ns.length ≤ 300
    · right
      by_cases h2 : ws.length ≤ 300
      · right; refine ⟨rfl, by omega, by omega, by simp [h1, h2]⟩
      · left; refine ⟨rfl, by omega, by omega, by simp [h2]⟩
    · left; refine ⟨rfl, by omega, by simp [h1]⟩
/-- A proof in a box. -/
def BP (w : World) (g : Nat) (k : Int) (A1 : Option Addr) (n1 c1 : Nat) (A2 : Option Addr) (n2 c2 : Nat) : Prop := w.heap[g]? = some (.cells #[.int .i64 k, .slice A1 n1 c1, .slice A2 n2 c2] 55 (0, 0))
theorem BP.bel {w w' : World} {g : Nat} {k : Int} {A1 : Option Addr} {n1 c1 : Nat} {A2 : Option Addr} {n2 c2 : Nat} (h : BP w g k A1 n1 c1 A2 n2 c2) (hb : Below w.heap.size w w') : BP w' g k A1 n1 c1 A2 n2 c2 := blk_bel h hb
theorem BP.cells {w : World} {g : Nat} {k : Int} {A1 : Option Addr} {n1 c1 : Nat} {A2 : Option Addr} {n2 c2 : Nat} (h : BP w g k A1 n1 c1 A2 n2 c2) :
    w.cell? ⟨g, 0, none⟩ = some (.int .i64 k) ∧ w.cell? ⟨g, 1, none⟩ = some (.slice A1 n1 c1) ∧ w.cell? ⟨g, 2, none⟩ = some (.slice A2 n2 c2) := ⟨blk_cell h 0 rfl, blk_cell h 1 rfl, blk_cell h 2 rfl⟩
set_option maxHeartbeats 4000000 in
theorem l25Is_any (w : World) (g : Nat) (k : Int) (A1 : Option Addr) (n1 c1 : Nat) (A2 : Option Addr) (n2 c2 : Nat) (hp : BP w g k A1 n1 c1 A2 n2 c2) (ns : List Int) (hr1 : Rd w A1 n1 (ints ns)) (hn1 : n1 ≤ 1000000000) (ws : List (List Int)) (hr2 : RdL w A2 n2 ws) (hn2 : n2 ≤ 1000000000) :
    Calls Try.prog 69 #[.pointer (some ⟨g, 0, none⟩)] w (RetV w (.bool (okP k ns ws))) := by
  obtain ⟨q0, q1, q2⟩ := hp.cells
  have HL : Hid (ns.length = n1) := Lib.hid (by simpa using hr1.1)
  rcases okP_cases' k ns ws n1 n2 (by simpa using hr1.1) hr2.len with ⟨h1, hO⟩ | ⟨h1, h2, hO⟩ | ⟨h1, h2, h3, hO⟩ | ⟨h1, h2, h3, hO⟩
  · have HO := Lib.hid hO; have H1 := Lib.hid h1; clear hO h1
    go_enter Try.func69, Try.ntmps69
    go_wp2_with (go_at_call 74; refine (l00In_any _ _ _ _).mono ?_; rw [H1.out]; rintro e w' ⟨rfl, rfl⟩)
    go_ret
    exact ⟨by rw [HO.out]; rfl, Below.refl _ _⟩
  · have HO := Lib.hid hO; have H1 := Lib.hid h1; clear hO h1
    have d1 : (300 : Int) < (n1 : Int) := by omega
    go_enter Try.func69, Try.ntmps69
    go_wp2_with (go_at_call 74; refine (l00In_any _ _ _ _).mono ?_; rw [H1.out]; rintro e w' ⟨rfl, rfl⟩)
    go_ret
    exact ⟨by rw [HO.out]; rfl, Below.refl _ _⟩
  · have HO := Lib.hid hO; have H1 := Lib.hid h1; clear hO h1
    have d1 : ¬ (300 : Int) < (n1 : Int) := by omega
    have d2 : (300 : Int) < (n2 : Int) := by omega
    go_enter Try.func69, Try.ntmps69
    go_wp2_with (go_at_call 74; refine (l00In_any _ _ _ _).mono ?_; rw [H1.out]; rintro e w' ⟨rfl, rfl⟩)
    go_ret
    exact ⟨by rw [HO.out]; rfl, Below.refl _ _⟩
  · have HO := Lib.hid hO; have H1 := Lib.hid h1; clear hO h1
    have d1 : ¬ (300 : Int) < (n1 : Int) := by omega
    have d2 : ¬ (300 : Int) < (n2 : Int) := by omega
    go_enter Try.func69, Try.ntmps69
    go_wp2_with (go_at_call 74; refine (l00In_any _ _ _ _).mono ?_; rw [H1.out]; rintro e w' ⟨rfl, rfl⟩)
    go_loopw [3] (fun q wr => ∃ j : Nat, j ≤ n1 ∧ q = .int .i64 j ∧ Hid (allIn (ns.take j) (-1000000000000) 1000000000000 = true) ∧ wr = w) (fun q _ => n1 - (intOf q).toNat)
    case atStart => exact ⟨0, Nat.zero_le _, rfl, Lib.hid (by simp [allIn]), rfl⟩
    case round =>
      obtain ⟨j, hj, rfl, hall, rfl⟩ := hrel
      by_cases hlt : j < n1
      · have hlt' : (j : Int) < (n1 : Int) := by omega
        obtain ⟨x, hx⟩ := get_some (xs := ns) (k := j) (by rw [HL.out]; omega)
        obtain ⟨b, off, hA, hbk, hcx⟩ := hr1.at_ (ints_get hx)
        subst hA
        have HX := Lib.hid hx
        clear hx
        cases hin : inB x (-1000000000000) 1000000000000 with
        | true =>
          have HIN := Lib.hid hin; clear hin
          go_wp2_with (go_at_call 74; refine (l00In_any _ _ _ _).mono ?_; rw [HIN.out]; rintro e w' ⟨rfl, rfl⟩)
          go_roundw
          case rel => exact ⟨j + 1, by omega, by go_num, Lib.hid (allIn_take_step hall.out HX.out HIN.out), by trivial⟩
          case measure => simp [intOf]; omega
        | false =>
          have HIN := Lib.hid hin; clear hin
          have HO2 : Hid (okP k ns ws = false) := Lib.hid (by rw [HO.out, allIn_out HX.out HIN.out]; rfl)
          go_wp2_with (go_at_call 74; refine (l00In_any _ _ _ _).mono ?_; rw [HIN.out]; rintro e w' ⟨rfl, rfl⟩)
          go_ret
          exact ⟨by rw [HO2.out]; rfl, Below.refl _ _⟩
      · have h := hall.out
        rw [List.take_of_length_le (by rw [HL.out]; omega)] at h
        have HO2 : Hid (okP k ns ws = ws.all wordB) := Lib.hid (by rw [HO.out, h]; rfl)
        clear h
        go_wp2_with (go_at_call 119; refine (l03All_any _ _ _ _ ws hr2 hn2).mono ?_; rw [← HO2.out]; rintro e w' ⟨rfl, rfl⟩)
        go_ret
        exact ⟨rfl, Below.refl _ _⟩
set_option maxHeartbeats 2000000 in
theorem l01Compare_any (w : World) (A A' : Option Addr) (n c n' c' : Nat) (xs ys : List Int) (hr : Rd w A n (ints xs)) (hr' : Rd w A' n' (ints ys)) (hn : n ≤ 1000000000) (hn' : n' ≤ 1000000000) :
    Calls Try.prog 125 #[.slice A n c, .slice A' n' c'] w (DrP w (.int .i64 (cmpL xs ys))) := by
  have HL : Hid (xs.length = n) := Lib.hid (by simpa using hr.1)
  have HL' : Hid (ys.length = n') := Lib.hid (by simpa using hr'.1)
  go_enter Try.func125, Try.ntmps125
  go_wp2_with fail
  go_loopw [5] (fun q wr => ∃ k : Nat, k ≤ n ∧ k ≤ n' ∧ q = .int .i64 k ∧ Hid (cmpL xs ys = cmpL (xs.drop k) (ys.drop k)) ∧ Hid (∃ nq, wr = w.drewN nq)) (fun q _ => n - (intOf q).toNat)
  case atStart => exact ⟨0, Nat.zero_le _, Nat.zero_le _, rfl, Lib.hid (by simp), Lib.hid ⟨0, rfl⟩⟩
  case round =>
    obtain ⟨k, hk, hk', rfl, HC, hw⟩ := hrel
    have hb : Below w.heap.size w wr := by obtain ⟨nr, h⟩ := hw.out; rw [h]; exact below_drewN (Below.refl _ _)
    by_cases h1 : k < n
    · have h1' : (k : Int) < (n : Int) := by omega
      obtain ⟨x, hx⟩ := get_some (xs := xs) (k := k) (by rw [HL.out]; omega)
      obtain ⟨b, off, hA, hbk, hcx⟩ := hr.at_ (ints_get hx)
      subst hA
      replace hcx := (hb.cell (p := ⟨b, off + k, none⟩) hbk).trans hcx
      by_cases h2 : k < n'
      · have h2' : (k : Int) < (n' : Int) := by omega
        have hk0 : (0 : Int) ≤ (k : Int) := by omega
        obtain ⟨y, hy⟩ := get_some (xs := ys) (k := k) (by rw [HL'.out]; omega)
        obtain ⟨b', off', hA, hbk', hcy⟩ := hr'.at_ (ints_get hy)
        subst hA
        replace hcy := (hb.cell (p := ⟨b', off' + k, none⟩) hbk').trans hcy
        have HX := Lib.hid hx; have HY := Lib.hid hy
        clear hx hy hb
        by_cases h3 : x < y
        · have HN : Hid (cmpL xs ys = -1) := Lib.hid (by rw [HC.out, drop_get HX.out, drop_get HY.out]; simp [cmpL, h3])
          go_wp2_with fail
          go_quiet (fail)
          go_wp2_with fail
          go_ret
          exact ⟨by rw [HN.out]; rfl, drn_step hw.out _⟩
        · by_cases h4 : y < x
          · have HN : Hid (cmpL xs ys = 1) := Lib.hid (by rw [HC.out, drop_get HX.out, drop_get HY.out]; simp [cmpL, h3, h4])
            go_wp2_with fail
            go_quiet (fail)
            go_wp2_with fail
            go_quiet (fail)
            go_wp2_with fail
            go_ret
            exact ⟨by rw [HN.out]; rfl, by first | exact drn_step hw.out _ | exact drn_step (drn_step hw.out _) _⟩
          · have HN : Hid (cmpL xs ys = cmpL (xs.drop (k + 1)) (ys.drop (k + 1))) := Lib.hid (by rw [HC.out, drop_get HX.out, drop_get HY.out]; simp [cmpL, h3, h4])
            go_wp2_with fail
            go_quiet (fail)
            go_wp2_with fail
            go_quiet (fail)
            go_wp2_with fail
            go_roundw
            case rel => exact ⟨k + 1, by omega, by omega, by go_num, HN, Lib.hid (by first | exact drn_step hw.out _ | exact drn_step (drn_step hw.out _) _)⟩
            case measure => simp [intOf]; omega
      · have h2' : ¬ (k : Int) < (n' : Int) := by omega
        have h3 : ¬ n < n' := by omega
        have h4 : n' < n := by omega
        have h3' : ¬ (n : Int) < (n' : Int) := by omega
        have h4' : (n' : Int) < (n : Int) := by omega
        have HN : Hid (cmpL xs ys = 1) := Lib.hid (by rw [HC.out, drop_get hx, List.drop_of_length_le (l := ys) (by rw [HL'.out]; omega)]; rfl)
        clear hx
        go_wp2_with fail
        go_ret
        exact ⟨by rw [HN.out]; rfl, hw.out⟩
    · have h1' : ¬ (k : Int) < (n : Int) := by omega
      have e1 : xs.drop k = [] := List.drop_of_length_le (by rw [HL.out]; omega)
      by_cases h2 : n < n'
      · have h2' : (n : Int) < (n' : Int) := by omega
        have HN : Hid (cmpL xs ys = -1) := Lib.hid (by
          obtain ⟨y, hy⟩ := get_some (xs := ys) (k := k) (by rw [HL'.out]; omega)
          rw [HC.out, e1, drop_get hy]; rfl)
        clear e1
        go_wp2_with fail
        go_ret
        exact ⟨by rw [HN.out]; rfl, hw.out⟩
      · have h2' : ¬ (n : Int) < (n' : Int) := by omega
        have h3 : ¬ n' < n := by omega
        have h3' : ¬ (n' : Int) < (n : Int) := by omega
        have HN : Hid (cmpL xs ys = 0) := Lib.hid (by rw [HC.out, e1, List.drop_of_length_le (l := ys) (by rw [HL'.out]; omega)]; rfl)
        clear e1
        go_wp2_with fail
        go_ret
        exact ⟨by rw [HN.out]; rfl, hw.out⟩
theorem order_cmp {a b : Int} {x y : List Int} : cmpL (a :: x) (b :: y) = if a < b then -1 else if b < a then 1 else cmpL x y := rfl
set_option maxHeartbeats 1000000 in
theorem l29Order_any (w : World) (A A' : Option Addr) (n c n' c' : Nat) (a b : Int) (xs ys : List Int) (hr : Rd w A n (ints xs)) (hr' : Rd w A' n' (ints ys)) (hn : n ≤ 1000000000) (hn' : n' ≤ 1000000000) :
    Calls Try.prog 121 #[.int .i64 a, .slice A n c, .int .i64 b, .slice A' n' c'] w (DrP w (.int .i64 (cmpL (a :: xs) (b :: ys)))) := by
  by_cases h1 : a < b
  · have HO : Hid (cmpL (a :: xs) (b :: ys) = -1) := Lib.hid (by simp [order_cmp, h1])
    go_enter Try.func121, Try.ntmps121
    go_wp2_with fail
    go_ret
    exact ⟨by rw [HO.out]; rfl, ⟨0, rfl⟩⟩
  · by_cases h2 : b < a
    · have HO : Hid (cmpL (a :: xs) (b :: ys) = 1) := Lib.hid (by simp [order_cmp, h1, h2])
      go_enter Try.func121, Try.ntmps121
      go_wp2_with fail
      go_ret
      exact ⟨by rw [HO.out]; rfl, ⟨0, rfl⟩⟩
    · have HO : Hid (cmpL (a :: xs) (b :: ys) = cmpL xs ys) := Lib.hid (by simp [order_cmp, h1, h2])
      go_enter Try.func121, Try.ntmps121
      go_wp2_with fail
      refine (l01Compare_any _ _ _ _ _ _ _ xs ys hr hr' hn hn').mono ?_
      rw [← HO.out]
      rintro e w2 ⟨rfl, hb2⟩
      go_wp2_with fail
      go_ret
      exact ⟨rfl, hb2⟩
set_option maxHeartbeats 1000000 in
theorem l29Lengths_any (w : World) (A : Option Addr) (n c : Nat) (xss : List (List Int)) (hr : RdL w A n xss) (hn : n ≤ 1000000000) (m : Int) :
    Calls Try.prog 73 #[.slice A n c, .int .i64 m] w fun e w' => e = .returned (.bool (xss.all (lenW m))) ∧ w = w' := by
  have HL : Hid (xss.length = n) := Lib.hid hr.len
  go_enter Try.func73, Try.ntmps73
  go_wp2_with fail
  go_loop [5] (fun q => ∃ k : Nat, k ≤ n ∧ q = .int .i64 k ∧ Hid ((xss.take k).all (lenW m) = true)) (fun q => n - (intOf q).toNat)
  case atStart => exact ⟨0, Nat.zero_le _, rfl, Lib.hid (by simp)⟩
  case round =>
    obtain ⟨k, hk, rfl, hall⟩ := hrel
    by_cases h1 : k < n
    · obtain ⟨xs, hx⟩ := get_some (xs := xss) (k := k) (by rw [HL.out]; omega)
      obtain ⟨b, off, A', n', c', rfl, hbs, hc, hn', hr'⟩ := hr.at_ hx
      have hl' : xs.length = n' := by simpa using hr'.1
      have HX := Lib.hid hx
      clear hx
      by_cases hm : (n' : Int) = m
      · have hne : ((n' : Int) != m) = false := by simp [hm]
        have HE : Hid (lenW m xs = wordB xs) := Lib.hid (by simp [lenW, hl', hm])
        clear hm hl'
        cases hin : wordB xs with
        | true =>
          have HIN := Lib.hid hin; clear hin
          go_wp2_with (go_at_call 120; refine (l03Is_any _ _ _ _ _ hr' (by omega)).mono ?_; rw [HIN.out]; rintro e w' ⟨rfl, rfl⟩)
          go_round
          case rel => exact ⟨k + 1, by omega, by go_num, Lib.hid (all_step hall.out HX.out (by rw [HE.out, HIN.out]))⟩
          case measure => simp [intOf]; omega
        | false =>
          have HIN := Lib.hid hin; clear hin
          go_wp2_with (go_at_call 120; refine (l03Is_any _ _ _ _ _ hr' (by omega)).mono ?_; rw [HIN.out]; rintro e w' ⟨rfl, rfl⟩)
          go_ret
          exact ⟨by rw [all_out HX.out (by rw [HE.out, HIN.out])]; rfl, rfl⟩
      · have hne : ((n' : Int) != m) = true := by simpa using hm
        have HE : Hid (lenW m xs = false) := Lib.hid (by simp [lenW, hl', hm])
        clear hm hl'
        go_wp2_with fail
        go_ret
        exact ⟨by rw [all_out HX.out HE.out]; rfl, rfl⟩
    · have h := hall.out
      rw [List.take_of_length_le (by rw [HL.out]; omega)] at h
      have HO := Lib.hid h
      clear h
      go_wp2_with fail
      go_ret
      exact ⟨by rw [HO.out]; rfl, rfl⟩
end Go.Proofs.Ytjgajjcgapifoaa
