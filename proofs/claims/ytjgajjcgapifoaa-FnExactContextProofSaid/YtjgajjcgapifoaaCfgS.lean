/- The context of a configuration: the reference's functions. -/
import Derived.Test.YtjgajjcgapifoaaCfgJ
import Derived.Test.YtjgajjcgapifoaaCtxS
namespace Go.Proofs.Ytjgajjcgapifoaa
open Go.RowKit
set_option linter.unusedVariables false
set_option linter.unusedSimpArgs false
/-- The box of a configuration. -/
def BC (w : World) (g : Nat) (st : Int) (A1 : Option Addr) (n1 c1 : Nat) (A2 : Option Addr) (n2 c2 : Nat) : Prop := w.heap[g]? = some (.cells #[.int .i64 st, .slice A1 n1 c1, .slice A2 n2 c2] 44 (0, 0))
theorem BC.bel {w w' : World} {g n1 c1 n2 c2 : Nat} {st : Int} {A1 A2 : Option Addr} (h : BC w g st A1 n1 c1 A2 n2 c2) (hb : Below w.heap.size w w') : BC w' g st A1 n1 c1 A2 n2 c2 := blk_bel h hb
theorem BC.cells {w : World} {g n1 c1 n2 c2 : Nat} {st : Int} {A1 A2 : Option Addr} (h : BC w g st A1 n1 c1 A2 n2 c2) : w.cell? ⟨g, 0, none⟩ = some (.int .i64 st) ∧ w.cell? ⟨g, 1, none⟩ = some (.slice A1 n1 c1) ∧ w.cell? ⟨g, 2, none⟩ = some (.slice A2 n2 c2) :=
  ⟨blk_cell h 0 rfl, blk_cell h 1 rfl, blk_cell h 2 rfl⟩
/-- What a call that only reads leaves: nothing but draws. -/
def DrP (w : World) (v : Value) (e : Ending) (w' : World) : Prop := e = .returned v ∧ ∃ m, w' = w.drewN m
theorem drn_step {w wr : World} (h : ∃ n, wr = w.drewN n) (k : Nat) : ∃ m, wr.drewN k = w.drewN m := by obtain ⟨n, rfl⟩ := h; exact ⟨_, World.drewN_drewN _ _ _⟩
set_option maxHeartbeats 4000000 in
theorem l05Cells_any (w : World) (g : Nat) (s t : Int) (A : Option Addr) (n c : Nat) (hm : BM w g s t A n c) (hs : 2 ≤ s ∧ s ≤ 6) (A1 : Option Addr) (n1 c1 : Nat) (xs : List Int) (hr1 : Rd w A1 n1 (ints xs)) (hn1 : n1 ≤ 1099511627776) :
    Calls Try.prog 114 #[.pointer (some ⟨g, 0, none⟩), .slice A1 n1 c1] w (DrP w (.bool (okS s xs))) := by
  obtain ⟨hs1, hs2⟩ := hs
  have HL : Hid (xs.length = n1) := Lib.hid (by simpa using hr1.1)
  have HM := Lib.hid hm
  clear hm
  go_enter Try.func114, Try.ntmps114
  go_wp2_with fail
  go_loopw [5] (fun q wr => ∃ k : Nat, k ≤ n1 ∧ q = .int .i64 k ∧ Hid (allIn (xs.take k) 0 (s - 1) = true) ∧ Hid (∃ nq, wr = w.drewN nq)) (fun q _ => n1 - (intOf q).toNat)
  case atStart => exact ⟨0, by omega, rfl, Lib.hid (by simp [allIn]), Lib.hid ⟨0, rfl⟩⟩
  case round =>
    obtain ⟨k, hk, rfl, hall, hw⟩ := hrel
    have hb : Below w.heap.size w wr := by obtain ⟨nr, h⟩ := hw.out; rw [h]; exact below_drewN (Below.refl _ _)
    by_cases hlt : k < n1
    · have hlt' : (k : Int) < (n1 : Int) := by omega
      have hk0 : (0 : Int) ≤ (k : Int) := by omega
      obtain ⟨x, hx⟩ := get_some (xs := xs) (k := k) (by rw [HL.out]; exact hlt)
      obtain ⟨b, off, hA, hbs, q0⟩ := hr1.at_ (ints_get hx)
      subst hA
      replace q0 := (hb.cell (p := ⟨b, off + k, none⟩) hbs).trans q0
      obtain ⟨z0, z1, z2⟩ := (BM.bel HM.out hb).cells
      have HX := Lib.hid hx
      clear hx
      cases hin : inB x 0 (s - 1) with
      | true =>
        have HI := Lib.hid hin
        go_wp2_with fail
        go_quiet ((go_at_call 74; exact Calls.quiet_of_same ((l00In_any _ _ _ _).mono fun e w' h => ⟨h.1, h.2.symm⟩)))
        go_wp2_with fail
        go_roundw
        case rel => exact ⟨k + 1, by omega, by go_num, Lib.hid (allIn_take_step hall.out HX.out HI.out), Lib.hid (drn_step hw.out _)⟩
        case measure => simp [intOf]; omega
      | false =>
        have HQ := Lib.hid (okS_all (allIn_out HX.out hin))
        go_wp2_with fail
        go_quiet ((go_at_call 74; exact Calls.quiet_of_same ((l00In_any _ _ _ _).mono fun e w' h => ⟨h.1, h.2.symm⟩)))
        go_wp2_with fail
        go_ret
        exact ⟨by rw [HQ.out]; rfl, drn_step hw.out _⟩
    · have h := hall.out
      rw [List.take_of_length_le (by rw [HL.out]; omega)] at h
      by_cases h2 : n1 ≤ 200
      · have d1 : decide ((n1 : Int) ≤ 200) = true := decide_eq_true (by omega)
        have d1' : decide (n1 ≤ 200) = true := decide_eq_true (by omega)
        rcases Nat.eq_zero_or_pos n1 with h0 | h0
        · have hx : xs = [] := List.eq_nil_of_length_eq_zero (by rw [HL.out]; exact h0)
          have HO : Hid (okS s xs = true) := Lib.hid (by rw [hx]; exact okS_nil s)
          subst h0
          clear h hx
          go_wp2_with fail
          go_ret
          exact ⟨by rw [HO.out]; rfl, hw.out⟩
        · obtain ⟨m, hm⟩ : ∃ m, n1 = m + 1 := ⟨n1 - 1, by omega⟩
          obtain ⟨x, hx⟩ := get_some (xs := xs) (k := m) (by rw [HL.out]; omega)
          have HO := Lib.hid (okS_last (by rw [HL.out]; exact hm) (by rw [HL.out]; exact h2) h hx)
          obtain ⟨b, off, rfl, hbs, q0⟩ := hr1.at_ (ints_get hx)
          replace q0 := (hb.cell (p := ⟨b, off + m, none⟩) hbs).trans q0
          have hz : ((n1 : Int) == 0) = false := beq_eq_false_iff_ne.2 (by omega)
          have hz2 : ¬ (n1 = 0) := by omega
          have i0 : (0 : Int) ≤ (m : Int) := by omega
          have i1 : (m : Int) < (n1 : Int) := by omega
          have i2 : m < n1 := by omega
          have hm1 : (n1 : Int) - 1 = (m : Int) := by omega
          clear h hx hm h0
          go_wp2_with fail
          go_ret
          exact ⟨by rw [HO.out]; rfl, hw.out⟩
      · have d1 : decide ((n1 : Int) ≤ 200) = false := decide_eq_false (by omega)
        have d1' : decide (n1 ≤ 200) = false := decide_eq_false (by omega)
        have HO : Hid (okS s xs = false) := Lib.hid (okS_len (by rw [HL.out]; exact h2))
        clear h
        go_wp2_with fail
        go_ret
        exact ⟨by rw [HO.out]; rfl, hw.out⟩
set_option maxHeartbeats 4000000 in
theorem l05Good_any (w : World) (g g2 : Nat) (s t : Int) (A : Option Addr) (n c : Nat) (hm : BM w g s t A n c) (hs : 2 ≤ s ∧ s ≤ 6) (ht : 1 ≤ t ∧ t ≤ 1000) (st : Int) (A1 : Option Addr) (n1 c1 : Nat) (A2 : Option Addr) (n2 c2 : Nat) (hc : BC w g2 st A1 n1 c1 A2 n2 c2) (ls : List Int) (hr1 : Rd w A1 n1 (ints ls)) (hn1 : n1 ≤ 1099511627776) (rs : List Int) (hr2 : Rd w A2 n2 (ints rs)) (hn2 : n2 ≤ 1099511627776) :
    Calls Try.prog 63 #[.pointer (some ⟨g, 0, none⟩), .pointer (some ⟨g2, 0, none⟩)] w (RetV w (.bool (okCf s t st ls rs))) := by
  obtain ⟨z0, z1, z2⟩ := hm.cells
  obtain ⟨y0, y1, y2⟩ := hc.cells
  have hs1 := hs.1; have hs2 := hs.2; have ht1 := ht.1; have ht2 := ht.2
  have h1 : ∀ n, Calls Try.prog 114 #[.pointer (some ⟨g, 0, none⟩), .slice A1 n1 c1] (w.drewN n) (DrP (w.drewN n) (.bool (okS s ls))) := fun n => l05Cells_any (w.drewN n) g s t A _ c hm hs A1 n1 c1 ls hr1 hn1
  have h2 : ∀ n, Calls Try.prog 114 #[.pointer (some ⟨g, 0, none⟩), .slice A2 n2 c2] (w.drewN n) (DrP (w.drewN n) (.bool (okS s rs))) := fun n => l05Cells_any (w.drewN n) g s t A _ c hm hs A2 n2 c2 rs hr2 hn2
  have h0 : ∀ n, Calls Try.prog 74 #[.int .i64 st, .int .i64 0, .int .i64 (t - 1)] (w.drewN n) (fun e w' => e = .returned (.bool (inB st 0 (t - 1))) ∧ w' = w.drewN n) := fun n => (l00In_any _ st 0 (t - 1)).mono fun e w' h => ⟨h.1, h.2.symm⟩
  have HO : Hid (okCf s t st ls rs = (inB st 0 (t - 1) && okS s ls && okS s rs)) := Lib.hid rfl
  have HK0 := Lib.hid (fun n => Calls.quiet_of_same (h0 n))
  have HK1 := Lib.hid (fun n => Calls.quiet_of (h1 n))
  have HK2 := Lib.hid (fun n => Calls.quiet_of (h2 n))
  clear h0 h1 h2 hm hc hs ht hr1 hr2
  generalize okS s rs = q2 at *
  generalize okS s ls = q1 at *
  generalize inB st 0 (t - 1) = q0 at *
  cases q0 <;> cases q1 <;> cases q2
  all_goals
    go_enter Try.func63, Try.ntmps63
    go_wp2_with fail
    go_quiet (first
      | (go_at_call 74; with_reducible exact HK0.out _)
      | (go_at_call 114; with_reducible exact HK1.out _)
      | (go_at_call 114; with_reducible exact HK2.out _))
    go_wp2_with fail
    go_ret
    exact ⟨by rw [HO.out]; rfl, below_drewN (Below.refl _ _)⟩
set_option maxHeartbeats 400000 in
theorem l13Cell_any (w : World) (A : Option Addr) (n c : Nat) (xs : List Int) (hr : Rd w A n (ints xs)) (hn : n ≤ 1099511627776) (k : Nat) (i : Int) (hik : i = k) (hk : k ≤ 1000000) :
    Calls Try.prog 144 #[.slice A n c, .int .i64 i] w fun e w' => e = .returned (.int .i64 (xs.getD k 0)) ∧ w = w' := by
  subst hik
  have hl : xs.length = n := by simpa using hr.1
  by_cases h : k < n
  · obtain ⟨x, hx⟩ := get_some (xs := xs) (k := k) (by rw [hl]; exact h)
    obtain ⟨b, off, rfl, hbs, q0⟩ := hr.at_ (ints_get hx)
    have HO : Hid (xs.getD k 0 = x) := Lib.hid (by simp [List.getD, hx])
    have i0 : (0 : Int) ≤ (k : Int) := by omega
    have i1 : (k : Int) < (n : Int) := by omega
    clear hx hl
    go_enter Try.func144, Try.ntmps144
    go_wp2_with fail
    go_ret
    exact ⟨by rw [HO.out]; rfl, rfl⟩
  · have i1 : ¬ (k : Int) < (n : Int) := by omega
    have HO2 : Hid (xs[k]?.getD 0 = 0) := Lib.hid (by simp [List.getElem?_eq_none (show xs.length ≤ k by omega)])
    have HO : Hid (xs.getD k 0 = 0) := Lib.hid (by simp [List.getD, List.getElem?_eq_none (show xs.length ≤ k by omega)])
    clear hl
    go_enter Try.func144, Try.ntmps144
    go_wp2_with fail
    go_ret
    exact ⟨by first | (rw [HO.out]; rfl) | (rw [HO2.out]; rfl), rfl⟩
set_option maxHeartbeats 1000000 in
theorem l29First_any (w : World) (A : Option Addr) (n c : Nat) (xs : List Int) (hr : Rd w A n (ints xs)) (hn : n ≤ 1099511627776) (f m : Nat) (fi mi : Int) (hfi : fi = f) (hmi : mi = m) (hf : f ≤ 1000) (hm : m ≤ 1000) :
    Calls Try.prog 115 #[.slice A n c, .int .i64 fi, .int .i64 mi] w (RetS w 2 (ints (cellsF xs f m))) := by
  subst hfi hmi
  have hown := own_lit w #[] 0 2 rfl (by omega)
  have HB0 := Lib.hid (below_new w (.cells #[] 2))
  go_enter Try.func115, Try.ntmps115
  go_wp2_with fail
  go_loopw [7, 8] (fun q i wr => ∃ (k : Nat) (A3 : Option Addr) (c3 : Nat), k ≤ m ∧ i = .int .i64 k ∧ q = .slice A3 k c3 ∧ wr.ownsRow w.heap.size 2 1 (.slice A3 k c3) k (ints (cellsF xs f k)) ∧ Below w.heap.size w wr) (fun _ i _ => m - (intOf i).toNat)
  case atStart => exact ⟨0, _, _, by omega, rfl, rfl, hown, HB0.out⟩
  case round =>
    clear hown
    obtain ⟨k, A3, c3, hk, rfl, rfl, ho3, hb3⟩ := hrel
    by_cases hlt : k < m
    · have hlt' : (k : Int) < (m : Int) := by omega
      have HR := Lib.hid (hr.below hb3 (Nat.le_refl _))
      have HS := Lib.hid (cellsF_step xs f k)
      have HBB := Lib.hid hb3
      have HO := Lib.hid ho3
      clear hb3 ho3
      go_wp2_with (first
        | (go_at_call 144; go_must (refine (l13Cell_any _ _ _ _ xs HR.out hn (f + k) _ (by push_cast; rfl) (by omega)).mono ?_; rintro e w' ⟨rfl, rfl⟩))
        | (at_builtin; go_must (refine wpList_app1 Try.eltI rfl _ _ rfl _ w.heap.size _ k _ (by rfl) HO.out (.int .i64 (xs.getD (f + k) 0)) rfl (by rfl) HBB.out.size (by omega) ?_); rintro A4 c4 w4 ho4 hb4))
      rw [ints_snoc, ← HS.out] at ho4
      go_roundw
      case rel => exact ⟨k + 1, A4, c4, by omega, by go_num, rfl, ho4, HBB.out.trans (hb4.mono (by exact Nat.le_refl _))⟩
      case measure => simp [intOf]; omega
    · obtain rfl : k = m := by omega
      go_wp2_with fail
      go_ret
      exact ⟨A3, k, c3, rfl, ho3, hb3⟩
set_option maxHeartbeats 1000000 in
theorem l29Context_any (w : World) (g : Nat) (st : Int) (A1 : Option Addr) (n1 c1 : Nat) (A2 : Option Addr) (n2 c2 : Nat) (hc : BC w g st A1 n1 c1 A2 n2 c2) (ls : List Int) (hr1 : Rd w A1 n1 (ints ls)) (hn1 : n1 ≤ 1099511627776) (rs : List Int) (hr2 : Rd w A2 n2 (ints rs)) (hn2 : n2 ≤ 1099511627776) (h : Nat) (hh : h ≤ 100) :
    Calls Try.prog 65 #[.pointer (some ⟨g, 0, none⟩), .int .i64 h] w (RetS w 2 (ints (ctxOf ls rs h))) := by
  obtain ⟨y0, y1, y2⟩ := hc.cells
  have HC := Lib.hid hc
  have hwh : IntKind.i64.wrap ((h : Int) + 1) = (h : Int) + 1 := IntWalk.i64_in _ (by omega)
  have HL3 := Lib.hid (cellsF_len ls 0 h)
  have HL4 := Lib.hid (cellsF_len rs 0 (h + 1))
  have HCX : Hid (ints (cellsF ls 0 h) ++ ints (cellsF rs 0 (h + 1)) = ints (ctxOf ls rs h)) := Lib.hid (by simp [ctxOf])
  clear hc
  go_enter Try.func65, Try.ntmps65
  go_wp2_with fail
  refine (l29First_any _ A1 n1 _ ls hr1 hn1 0 h _ _ (by rfl) (by rfl) (by omega) (by omega)).mono ?_
  rintro e w3 ⟨A3, n3, c3, rfl, ho3, hb3⟩
  obtain ⟨x0, x1, x2⟩ := (BC.bel HC.out hb3).cells
  have HO3 := Lib.hid ho3
  have HB3 := Lib.hid hb3
  have HN3 : Hid (n3 = h) := Lib.hid (by have h9 := ho3.1; have h8 := HL3.out; simp at h9; omega)
  clear y0 y1 y2 ho3 hb3
  go_wp2_with fail
  refine (l29First_any _ A2 n2 _ rs (hr2.below HB3.out (Nat.le_refl _)) hn2 0 (h + 1) _ _ (by rfl) (by push_cast; rfl) (by omega) (by omega)).mono ?_
  rintro e w4 ⟨A4, n4, c4, rfl, ho4, hb4⟩
  have HN4 : Hid (n4 = h + 1) := Lib.hid (by have h9 := ho4.1; have h8 := HL4.out; simp at h9; omega)
  have HO4 := Lib.hid ho4
  have HB4 := Lib.hid hb4
  have HO3' := Lib.hid (ownN_below HO3.out hb4 (Nat.le_refl _))
  have HZ := Lib.hid (HB3.out.trans (hb4.mono HB3.out.size))
  clear ho4 hb4
  go_wp2_with (at_builtin; go_must (refine wpList_appSg Try.eltI rfl _ _ rfl w4 w.heap.size _ n3 _ (by rfl) HO3'.out A4 n4 c4 _ (by rfl) (own_rd HO4.out) ints_one HZ.out.size (by rw [HN3.out, HN4.out]; omega) ?_); rintro A5 c5 w5 ho5 hb5 hg5)
  go_ret
  rw [HCX.out] at ho5
  exact ⟨A5, _, c5, rfl, ho5, HZ.out.trans hb5⟩
set_option maxHeartbeats 4000000 in
theorem specContextOf_any (w : World) (s t : Int) (A : Option Addr) (n c : Nat) (ps : List Rul) (hr : Rd w A (n * 3) (ints (flatR ps))) (hn : n ≤ 1099511627776) (st : Int) (A1 : Option Addr) (n1 c1 : Nat) (ls : List Int) (hr1 : Rd w A1 n1 (ints ls)) (hn1 : n1 ≤ 1099511627776) (A2 : Option Addr) (n2 c2 : Nat) (rs : List Int) (hr2 : Rd w A2 n2 (ints rs)) (hn2 : n2 ≤ 1099511627776) (m : Int) :
    Calls Try.prog 23 #[mchV s t A n c, cfgV st A1 n1 c1 A2 n2 c2, .int .i64 m] w (RetSI w 2 (ints (coP s t ps st ls rs m).1) (coP s t ps st ls rs m).2) := by
  obtain ⟨w0, hw0⟩ : ∃ w0, w0 = (w.alloc (.cells #[.int .i64 s, .int .i64 t, .slice A n c] 31)).alloc (.cells #[.int .i64 st, .slice A1 n1 c1, .slice A2 n2 c2] 44) := ⟨_, rfl⟩
  have hB : Below w.heap.size w w0 := by rw [hw0]; exact (below_new w _).trans ((below_new _ _).mono (by simp))
  have hx0 : BM w0 w.heap.size s t A n c := by rw [hw0]; exact blk_alloc (box_new w _ _) _
  have hx1 : BC w0 (w.heap.size + 1) st A1 n1 c1 A2 n2 c2 := by rw [hw0]; have h := box_new (w.alloc (.cells #[.int .i64 s, .int .i64 t, .slice A n c] 31)) #[.int .i64 st, .slice A1 n1 c1, .slice A2 n2 c2] 44; unfold BC; simpa using h
  have HX0 := Lib.hid hx0
  have HX1 := Lib.hid hx1
  have HR := Lib.hid (hr.below hB (Nat.le_refl _))
  have HR1 := Lib.hid (hr1.below hB (Nat.le_refl _))
  have HR2 := Lib.hid (hr2.below hB (Nat.le_refl _))
  have HB := Lib.hid hB
  clear hB hx0 hx1
  cases hok : okM s t ps with
  | false =>
    have HO := Lib.hid (co_bad (s := s) (t := t) (ps := ps) (st := st) (ls := ls) (rs := rs) (n := m) (by rw [hok]; rfl))
    have HV := Lib.hid hok
    clear hok
    rw [HO.out]
    go_enter Try.func23, Try.ntmps23
    go_wp2_with fail
    rw [← hw0]
    clear hw0
    refine (l05Is_any _ _ s t A n c HX0.out ps HR.out hn).mono ?_
    rw [HV.out]
    rintro e w2 ⟨rfl, hb2⟩
    go_wp2_with fail
    go_ret2
    exact ⟨none, 0, 0, rfl, own_nil _ _ _, HB.out.trans (hb2.mono HB.out.size)⟩
  | true =>
    obtain ⟨hs, ht, _, _⟩ := okM_all hok
    have HV := Lib.hid hok
    cases hcf : okCf s t st ls rs with
    | false =>
      have HO := Lib.hid (co_bad (s := s) (t := t) (ps := ps) (st := st) (ls := ls) (rs := rs) (n := m) (by rw [hok, hcf]; rfl))
      have HF := Lib.hid hcf
      clear hok hcf
      rw [HO.out]
      go_enter Try.func23, Try.ntmps23
      go_wp2_with fail
      rw [← hw0]
      clear hw0
      refine (l05Is_any _ _ s t A n c HX0.out ps HR.out hn).mono ?_
      rw [HV.out]
      rintro e w2 ⟨rfl, hb2⟩
      go_wp2_with fail
      refine (l05Good_any _ _ _ s t A n c (BM.bel HX0.out hb2) hs ht st A1 n1 c1 A2 n2 c2 (BC.bel HX1.out hb2) ls (HR1.out.below hb2 (Nat.le_refl _)) hn1 rs (HR2.out.below hb2 (Nat.le_refl _)) hn2).mono ?_
      rw [HF.out]
      rintro e w3 ⟨rfl, hb3⟩
      have HZ := Lib.hid ((HB.out.trans (hb2.mono HB.out.size)).trans (hb3.mono (Nat.le_trans HB.out.size hb2.size)))
      clear hb2 hb3
      go_wp2_with fail
      go_ret2
      exact ⟨none, 0, 0, rfl, own_nil _ _ _, HZ.out⟩
    | true =>
      have HF := Lib.hid hcf
      cases hi : inB m 1 4 with
      | false =>
        have HO := Lib.hid (co_n (s := s) (t := t) (ps := ps) (st := st) (ls := ls) (rs := rs) (n := m) (by rw [hok, hcf]; rfl) hi)
        have HI := Lib.hid hi
        clear hok hcf hi
        rw [HO.out]
        go_enter Try.func23, Try.ntmps23
        go_wp2_with fail
        rw [← hw0]
        clear hw0
        refine (l05Is_any _ _ s t A n c HX0.out ps HR.out hn).mono ?_
        rw [HV.out]
        rintro e w2 ⟨rfl, hb2⟩
        go_wp2_with fail
        refine (l05Good_any _ _ _ s t A n c (BM.bel HX0.out hb2) hs ht st A1 n1 c1 A2 n2 c2 (BC.bel HX1.out hb2) ls (HR1.out.below hb2 (Nat.le_refl _)) hn1 rs (HR2.out.below hb2 (Nat.le_refl _)) hn2).mono ?_
        rw [HF.out]
        rintro e w3 ⟨rfl, hb3⟩
        have HZ := Lib.hid ((HB.out.trans (hb2.mono HB.out.size)).trans (hb3.mono (Nat.le_trans HB.out.size hb2.size)))
        clear hb2 hb3
        go_wp2_with fail
        refine (l29Size_any _ _).mono ?_
        rw [HI.out]
        rintro e w4 ⟨rfl, rfl⟩
        go_wp2_with fail
        go_ret2
        exact ⟨none, 0, 0, rfl, own_nil _ _ _, HZ.out⟩
      | true =>
        have HO := Lib.hid (co_ok (s := s) (t := t) (ps := ps) (st := st) (ls := ls) (rs := rs) (n := m) (by rw [hok, hcf]; rfl) hi)
        have HI := Lib.hid hi
        obtain ⟨k, rfl⟩ : ∃ k : Nat, m = (k : Int) := ⟨m.toNat, by have h := inB_true.1 hi; omega⟩
        have hk : k ≤ 4 := by have h := inB_true.1 hi; omega
        clear hok hcf hi
        rw [HO.out]
        go_enter Try.func23, Try.ntmps23
        go_wp2_with fail
        rw [← hw0]
        clear hw0
        refine (l05Is_any _ _ s t A n c HX0.out ps HR.out hn).mono ?_
        rw [HV.out]
        rintro e w2 ⟨rfl, hb2⟩
        go_wp2_with fail
        refine (l05Good_any _ _ _ s t A n c (BM.bel HX0.out hb2) hs ht st A1 n1 c1 A2 n2 c2 (BC.bel HX1.out hb2) ls (HR1.out.below hb2 (Nat.le_refl _)) hn1 rs (HR2.out.below hb2 (Nat.le_refl _)) hn2).mono ?_
        rw [HF.out]
        rintro e w3 ⟨rfl, hb3⟩
        have HB2 := Lib.hid (hb2.trans (hb3.mono hb2.size))
        have HZ := Lib.hid (HB.out.trans (HB2.out.mono HB.out.size))
        clear hb2 hb3
        go_wp2_with fail
        refine (l29Size_any _ _).mono ?_
        rw [HI.out]
        rintro e w4 ⟨rfl, rfl⟩
        go_wp2_with fail
        refine (l29Context_any _ _ st A1 n1 c1 A2 n2 c2 (BC.bel HX1.out HB2.out) ls (HR1.out.below HB2.out (Nat.le_refl _)) hn1 rs (HR2.out.below HB2.out (Nat.le_refl _)) hn2 k (by omega)).mono ?_
        rintro e w5 ⟨A5, n5, c5, rfl, ho5, hb5⟩
        have HO5 := Lib.hid ho5
        have HB5 := Lib.hid hb5
        clear ho5 hb5
        go_wp2_with fail
        go_ret2
        exact ⟨A5, n5, c5, rfl, by simpa using ownN_base HO5.out HZ.out.size, HZ.out.trans (HB5.out.mono HZ.out.size)⟩
end Go.Proofs.Ytjgajjcgapifoaa
