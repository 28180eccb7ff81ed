/- Configurations of a machine, and contexts: the program's functions. -/
import Derived.Test.YtjgajjcgapifoaaCfgM
import Derived.Test.YtjgajjcgapifoaaCtxI
namespace Go.Proofs.Ytjgajjcgapifoaa
open Go.RowKit
set_option linter.unusedVariables false
set_option linter.unusedSimpArgs false
set_option maxHeartbeats 1000000 in
theorem validSide_any (w : World) (A : Option Addr) (n c : Nat) (xs : List Int) (hr : Rd w A n (ints xs)) (hn : n ≤ 1099511627776) (s : Int) (hs : 2 ≤ s ∧ s ≤ 6) :
    Calls Try.prog 145 #[.slice A n c, .int .i64 s, .int .i64 200] w fun e w' => e = .returned (.bool (okS s xs)) ∧ w = w' := by
  have HL : Hid (xs.length = n) := Lib.hid (by simpa using hr.1)
  by_cases h1 : n ≤ 200
  · have d1 : decide ((n : Int) ≤ 200) = true := decide_eq_true (by omega)
    have d1' : decide (n ≤ 200) = true := decide_eq_true (by omega)
    cases hal : allIn xs 0 (s - 1) with
    | false =>
      have HA := Lib.hid hal
      have HO := Lib.hid (okS_all hal)
      clear hal
      go_enter Try.func145, Try.ntmps145
      go_wp2_with (first
        | (go_at_call 108; go_must (refine (sizeI_any _ _ _ _).mono ?_; rintro e w' ⟨rfl, rfl⟩))
        | (go_at_call 77; go_must (refine (allWithin_any _ _ _ _ xs hr hn _ _).mono ?_; rw [HA.out]; rintro e w' ⟨rfl, rfl⟩)))
      go_ret
      exact ⟨by rw [HO.out]; rfl, rfl⟩
    | true =>
      have HA := Lib.hid hal
      rcases Nat.eq_zero_or_pos n with h0 | h0
      · have hx : xs = [] := List.eq_nil_of_length_eq_zero (by rw [HL.out]; exact h0)
        have HO : Hid (okS s xs = true) := Lib.hid (by rw [hx]; exact okS_nil s)
        subst h0
        clear hal hx
        go_enter Try.func145, Try.ntmps145
        go_wp2_with (first
          | (go_at_call 108; go_must (refine (sizeI_any _ _ _ _).mono ?_; rintro e w' ⟨rfl, rfl⟩))
          | (go_at_call 77; go_must (refine (allWithin_any _ _ _ _ xs hr hn _ _).mono ?_; rw [HA.out]; rintro e w' ⟨rfl, rfl⟩)))
        go_ret
        exact ⟨by rw [HO.out]; rfl, rfl⟩
      · obtain ⟨m, hm⟩ : ∃ m, n = m + 1 := ⟨n - 1, by omega⟩
        obtain ⟨x, hx⟩ := get_some (xs := xs) (k := m) (by rw [HL.out]; omega)
        have HO := Lib.hid (okS_last (by rw [HL.out]; exact hm) (by rw [HL.out]; exact h1) hal hx)
        obtain ⟨b, off, rfl, hbs, q0⟩ := hr.at_ (ints_get hx)
        have hz : ((n : Int) == 0) = false := beq_eq_false_iff_ne.2 (by omega)
        have hz2 : ¬ (n = 0) := by omega
        have i0 : (0 : Int) ≤ (m : Int) := by omega
        have i1 : (m : Int) < (n : Int) := by omega
        have i2 : m < n := by omega
        have hm1 : (n : Int) - 1 = (m : Int) := by omega
        clear hal hx hm h0
        go_enter Try.func145, Try.ntmps145
        go_wp2_with (first
          | (go_at_call 108; go_must (refine (sizeI_any _ _ _ _).mono ?_; rintro e w' ⟨rfl, rfl⟩))
          | (go_at_call 77; go_must (refine (allWithin_any _ _ _ _ xs hr hn _ _).mono ?_; rw [HA.out]; rintro e w' ⟨rfl, rfl⟩)))
        go_ret
        exact ⟨by rw [HO.out]; rfl, rfl⟩
  · have d1 : decide ((n : Int) ≤ 200) = false := decide_eq_false (by omega)
    have d1' : decide (n ≤ 200) = false := decide_eq_false (by omega)
    have HO : Hid (okS s xs = false) := Lib.hid (okS_len (by rw [HL.out]; exact h1))
    go_enter Try.func145, Try.ntmps145
    go_wp2_with (go_at_call 108; go_must (refine (sizeI_any _ _ _ _).mono ?_; rintro e w' ⟨rfl, rfl⟩))
    go_ret
    exact ⟨by rw [HO.out]; rfl, rfl⟩
abbrev cfgV (st : Int) (A1 : Option Addr) (n1 c1 : Nat) (A2 : Option Addr) (n2 c2 : Nat) : Value := .agg #[.int .i64 st, .slice A1 n1 c1, .slice A2 n2 c2]
set_option maxHeartbeats 1000000 in
theorem configOf_any (w : World) (s t : Int) (hs : 2 ≤ s ∧ s ≤ 6) (ht : 1 ≤ t ∧ t ≤ 1000) (A : Option Addr) (n c : Nat) (st : Int) (A1 : Option Addr) (n1 c1 : Nat) (ls : List Int) (hr1 : Rd w A1 n1 (ints ls)) (hn1 : n1 ≤ 1099511627776) (A2 : Option Addr) (n2 c2 : Nat) (rs : List Int) (hr2 : Rd w A2 n2 (ints rs)) (hn2 : n2 ≤ 1099511627776) :
    Calls Try.prog 116 #[mchV s t A n c, cfgV st A1 n1 c1 A2 n2 c2] w (RetV w (.bool (okCf s t st ls rs))) := by
  obtain ⟨hs1, hs2⟩ := hs
  obtain ⟨ht1, ht2⟩ := ht
  obtain ⟨w0, hw0⟩ : ∃ w0, w0 = (w.alloc (.cells #[.int .i64 s, .int .i64 t, .slice A n c] 31)).alloc (.cells #[.int .i64 st, .slice A1 n1 c1, .slice A2 n2 c2] 44) := ⟨_, rfl⟩
  have hB : Below w.heap.size w w0 := by rw [hw0]; exact (below_new w _).trans ((below_new _ _).mono (by simp))
  have hx0 : w0.heap[w.heap.size]? = some (.cells #[.int .i64 s, .int .i64 t, .slice A n c] 31 (0, 0)) := by rw [hw0]; exact blk_alloc (box_new w _ _) _
  have hx1 : w0.heap[w.heap.size + 1]? = some (.cells #[.int .i64 st, .slice A1 n1 c1, .slice A2 n2 c2] 44 (0, 0)) := by rw [hw0]; have h := box_new (w.alloc (.cells #[.int .i64 s, .int .i64 t, .slice A n c] 31)) #[.int .i64 st, .slice A1 n1 c1, .slice A2 n2 c2] 44; simpa using h
  have z0 := blk_cell hx0 0 rfl
  have z1 := blk_cell hx0 1 rfl
  have z2 := blk_cell hx0 2 rfl
  have y0 := blk_cell hx1 0 rfl
  have y1 := blk_cell hx1 1 rfl
  have y2 := blk_cell hx1 2 rfl
  have HR1 := Lib.hid (hr1.below hB (Nat.le_refl _))
  have HR2 := Lib.hid (hr2.below hB (Nat.le_refl _))
  have HB := Lib.hid hB
  clear hB hx0 hx1
  cases hi : inB st 0 (t - 1) with
  | false =>
    have HI := Lib.hid hi
    have HO := Lib.hid (okCf_s (s := s) (ls := ls) (rs := rs) hi)
    clear hi
    go_enter Try.func116, Try.ntmps116
    go_wp2_with fail
    rw [← hw0]
    clear hw0
    refine (within_any _ _ _ _).mono ?_
    rw [HI.out]
    rintro e w' ⟨rfl, rfl⟩
    go_wp2_with fail
    go_ret
    exact ⟨by rw [HO.out]; rfl, HB.out⟩
  | true =>
    have HI := Lib.hid hi
    cases hl : okS s ls with
    | false =>
      have HO := Lib.hid (okCf_l (t := t) (st := st) (rs := rs) hl)
      have HL := Lib.hid hl
      clear hi hl
      go_enter Try.func116, Try.ntmps116
      go_wp2_with fail
      rw [← hw0]
      clear hw0
      refine (within_any _ _ _ _).mono ?_
      rw [HI.out]
      rintro e w' ⟨rfl, rfl⟩
      go_wp2_with fail
      refine (validSide_any _ A1 n1 _ ls (by exact HR1.out) hn1 _ ⟨hs1, hs2⟩).mono ?_
      rw [HL.out]
      rintro e w' ⟨rfl, rfl⟩
      go_wp2_with fail
      go_ret
      exact ⟨by rw [HO.out]; rfl, HB.out⟩
    | true =>
      have HO := Lib.hid (okCf_r (rs := rs) hi hl)
      have HL := Lib.hid hl
      clear hi hl
      go_enter Try.func116, Try.ntmps116
      go_wp2_with fail
      rw [← hw0]
      clear hw0
      refine (within_any _ _ _ _).mono ?_
      rw [HI.out]
      rintro e w' ⟨rfl, rfl⟩
      go_wp2_with fail
      refine (validSide_any _ A1 n1 _ ls (by exact HR1.out) hn1 _ ⟨hs1, hs2⟩).mono ?_
      rw [HL.out]
      rintro e w' ⟨rfl, rfl⟩
      go_wp2_with fail
      refine (validSide_any _ A2 n2 _ rs (by exact HR2.out) hn2 _ ⟨hs1, hs2⟩).mono ?_
      rintro e w' ⟨rfl, rfl⟩
      go_wp2_with fail
      go_ret
      exact ⟨by rw [HO.out]; rfl, HB.out⟩
set_option maxHeartbeats 4000000 in
theorem ValidConfig_any (w : World) (s t : Int) (A : Option Addr) (n c : Nat) (ps : List Rul) (hr : Rd w A (n * 3) (ints (flatR ps))) (hn : n ≤ 1099511627776) (st : Int) (A1 : Option Addr) (n1 c1 : Nat) (ls : List Int) (hr1 : Rd w A1 n1 (ints ls)) (hn1 : n1 ≤ 1099511627776) (A2 : Option Addr) (n2 c2 : Nat) (rs : List Int) (hr2 : Rd w A2 n2 (ints rs)) (hn2 : n2 ≤ 1099511627776) :
    Calls Try.prog 66 #[mchV s t A n c, cfgV st A1 n1 c1 A2 n2 c2] w (RetV w (.bool (okM s t ps && okCf s t st ls rs))) := by
  obtain ⟨w0, hw0⟩ : ∃ w0, w0 = (w.alloc (.cells #[.int .i64 s, .int .i64 t, .slice A n c] 31)).alloc (.cells #[.int .i64 st, .slice A1 n1 c1, .slice A2 n2 c2] 44) := ⟨_, rfl⟩
  have hB : Below w.heap.size w w0 := by rw [hw0]; exact (below_new w _).trans ((below_new _ _).mono (by simp))
  have hx0 : w0.heap[w.heap.size]? = some (.cells #[.int .i64 s, .int .i64 t, .slice A n c] 31 (0, 0)) := by rw [hw0]; exact blk_alloc (box_new w _ _) _
  have hx1 : w0.heap[w.heap.size + 1]? = some (.cells #[.int .i64 st, .slice A1 n1 c1, .slice A2 n2 c2] 44 (0, 0)) := by rw [hw0]; have h := box_new (w.alloc (.cells #[.int .i64 s, .int .i64 t, .slice A n c] 31)) #[.int .i64 st, .slice A1 n1 c1, .slice A2 n2 c2] 44; simpa using h
  have z0 := blk_cell hx0 0 rfl
  have z1 := blk_cell hx0 1 rfl
  have z2 := blk_cell hx0 2 rfl
  have y0 := blk_cell hx1 0 rfl
  have y1 := blk_cell hx1 1 rfl
  have y2 := blk_cell hx1 2 rfl
  have HX0 := Lib.hid hx0
  have HX1 := Lib.hid hx1
  have HR := Lib.hid (hr.below hB (Nat.le_refl _))
  have HR1 := Lib.hid (hr1.below hB (Nat.le_refl _))
  have HR2 := Lib.hid (hr2.below hB (Nat.le_refl _))
  have HB := Lib.hid hB
  clear hB hx0 hx1
  cases hm : okM s t ps with
  | false =>
    have HM := Lib.hid hm
    clear hm
    go_enter Try.func66, Try.ntmps66
    go_wp2_with fail
    rw [← hw0]
    clear hw0
    refine (ValidMachine_any _ s t A n c ps HR.out hn).mono ?_
    rw [HM.out]
    rintro e w2 ⟨rfl, hb2⟩
    go_wp2_with fail
    go_ret
    exact ⟨rfl, HB.out.trans (hb2.mono HB.out.size)⟩
  | true =>
    obtain ⟨hs, ht, _, _⟩ := okM_all hm
    have HM := Lib.hid hm
    clear hm
    go_enter Try.func66, Try.ntmps66
    go_wp2_with fail
    rw [← hw0]
    clear hw0
    refine (ValidMachine_any _ s t A n c ps HR.out hn).mono ?_
    rw [HM.out]
    rintro e w2 ⟨rfl, hb2⟩
    have hx0 := blk_bel HX0.out hb2
    have hx1 := blk_bel HX1.out hb2
    clear z0 z1 z2 y0 y1 y2
    have z0 := blk_cell hx0 0 rfl
    have z1 := blk_cell hx0 1 rfl
    have z2 := blk_cell hx0 2 rfl
    have y0 := blk_cell hx1 0 rfl
    have y1 := blk_cell hx1 1 rfl
    have y2 := blk_cell hx1 2 rfl
    clear hx0 hx1
    have HB2 := Lib.hid hb2
    clear hb2
    go_wp2_with fail
    refine (configOf_any _ s t hs ht A n c st A1 n1 c1 ls (HR1.out.below HB2.out (Nat.le_refl _)) hn1 A2 n2 c2 rs (HR2.out.below HB2.out (Nat.le_refl _)) hn2).mono ?_
    rintro e w3 ⟨rfl, hb3⟩
    go_wp2_with fail
    go_ret
    exact ⟨rfl, (HB.out.trans (HB2.out.mono HB.out.size)).trans (hb3.mono (Nat.le_trans HB.out.size HB2.out.size))⟩
set_option maxHeartbeats 400000 in
theorem symbolAt_any (w : World) (A : Option Addr) (n c : Nat) (xs : List Int) (hr : Rd w A n (ints xs)) (hn : n ≤ 1099511627776) (k : Nat) (i : Int) (hik : i = k) (hk : k ≤ 1000000) :
    Calls Try.prog 147 #[.slice A n c, .int .i64 i] w fun e w' => e = .returned (.int .i64 (xs.getD k 0)) ∧ w = w' := by
  subst hik
  have hl : xs.length = n := by simpa using hr.1
  by_cases h : k < n
  · obtain ⟨x, hx⟩ := get_some (xs := xs) (k := k) (by rw [hl]; exact h)
    obtain ⟨b, off, rfl, hbs, q0⟩ := hr.at_ (ints_get hx)
    have HO : Hid (xs.getD k 0 = x) := Lib.hid (by simp [List.getD, hx])
    have d1 : decide ((n : Int) ≤ (k : Int)) = false := decide_eq_false (by omega)
    have d2 : decide (n ≤ k) = false := decide_eq_false (by omega)
    have i0 : (0 : Int) ≤ (k : Int) := by omega
    have i1 : (k : Int) < (n : Int) := by omega
    clear hx hl
    go_enter Try.func147, Try.ntmps147
    go_wp2_with fail
    go_ret
    exact ⟨by rw [HO.out]; rfl, rfl⟩
  · have d1 : decide ((n : Int) ≤ (k : Int)) = true := decide_eq_true (by omega)
    have d2 : decide (n ≤ k) = true := decide_eq_true (by omega)
    have HO : Hid (xs.getD k 0 = 0) := Lib.hid (by simp [List.getD, List.getElem?_eq_none (show xs.length ≤ k by omega)])
    clear hl
    go_enter Try.func147, Try.ntmps147
    go_wp2_with fail
    go_ret
    exact ⟨by rw [HO.out]; rfl, rfl⟩
theorem ints_snoc (xs : List Int) (x : Int) : ints xs ++ [.int .i64 x] = ints (xs ++ [x]) := by simp
set_option maxHeartbeats 1000000 in
theorem cellsFrom_any (w : World) (A : Option Addr) (n c : Nat) (xs : List Int) (hr : Rd w A n (ints xs)) (hn : n ≤ 1099511627776) (f m : Nat) (fi mi : Int) (hfi : fi = f) (hmi : mi = m) (hf : f ≤ 1000) (hm : m ≤ 1000) :
    Calls Try.prog 118 #[.slice A n c, .int .i64 fi, .int .i64 mi] w (RetS w 2 (ints (cellsF xs f m))) := by
  subst hfi hmi
  have hown := own_lit w #[] 0 2 rfl (by omega)
  have HB0 := Lib.hid (below_new w (.cells #[] 2))
  go_enter Try.func118, Try.ntmps118
  go_wp2_with fail
  go_loopw [7, 11] (fun q i wr => ∃ (k : Nat) (A3 : Option Addr) (c3 : Nat), k ≤ m ∧ i = .int .i64 k ∧ q = .slice A3 k c3 ∧ wr.ownsRow w.heap.size 2 1 (.slice A3 k c3) k (ints (cellsF xs f k)) ∧ Below w.heap.size w wr) (fun _ i _ => m - (intOf i).toNat)
  case atStart => exact ⟨0, _, _, by omega, rfl, rfl, hown, HB0.out⟩
  case round =>
    clear hown
    obtain ⟨k, A3, c3, hk, rfl, rfl, ho3, hb3⟩ := hrel
    by_cases hlt : k < m
    · have hlt' : (k : Int) < (m : Int) := by omega
      have HR := Lib.hid (hr.below hb3 (Nat.le_refl _))
      have HS := Lib.hid (cellsF_step xs f k)
      have HBB := Lib.hid hb3
      have HO := Lib.hid ho3
      clear hb3 ho3
      go_wp2_with (first
        | (go_at_call 147; go_must (refine (symbolAt_any _ _ _ _ xs HR.out hn (f + k) _ (by push_cast; rfl) (by omega)).mono ?_; rintro e w' ⟨rfl, rfl⟩))
        | (at_builtin; go_must (refine wpList_app1 Try.eltI rfl _ _ rfl _ w.heap.size _ k _ (by rfl) HO.out (.int .i64 (xs.getD (f + k) 0)) rfl (by rfl) HBB.out.size (by omega) ?_); rintro A4 c4 w4 ho4 hb4))
      rw [ints_snoc, ← HS.out] at ho4
      go_roundw
      case rel => exact ⟨k + 1, A4, c4, by omega, by go_num, rfl, ho4, HBB.out.trans (hb4.mono (by exact Nat.le_refl _))⟩
      case measure => simp [intOf]; omega
    · obtain rfl : k = m := by omega
      go_wp2_with fail
      go_ret
      exact ⟨A3, k, c3, rfl, ho3, hb3⟩
end Go.Proofs.Ytjgajjcgapifoaa
