/- The context of a configuration: the program's functions. -/
import Derived.Test.YtjgajjcgapifoaaCfgI
import Derived.Test.YtjgajjcgapifoaaCatI
namespace Go.Proofs.Ytjgajjcgapifoaa
open Go.RowKit
set_option linter.unusedVariables false
set_option linter.unusedSimpArgs false
theorem rdL2 {w : World} {A3 A4 : Option Addr} {n3 c3 n4 c4 T : Nat} {xs ys : List Int} (h1 : Rd w A3 n3 (ints xs)) (h2 : Rd w A4 n4 (ints ys)) (b3 : n3 ≤ 1000000000) (b4 : n4 ≤ 1000000000) :
    RdL (w.alloc (.cells #[.slice A3 n3 c3, .slice A4 n4 c4] T)) (some ⟨w.heap.size, 0, none⟩) 2 [xs, ys] := by
  refine ⟨[.slice A3 n3 c3, .slice A4 n4 c4], own_rd (own_lit w #[.slice A3 n3 c3, .slice A4 n4 c4] 2 T rfl (by omega)), rfl, ?_⟩
  intro i v zs hv hz
  match i, hv, hz with
  | 0, hv, hz =>
    obtain rfl : Value.slice A3 n3 c3 = v := by simpa using hv
    obtain rfl : xs = zs := by simpa using hz
    exact ⟨A3, n3, c3, rfl, b3, h1.alloc _⟩
  | 1, hv, hz =>
    obtain rfl : Value.slice A4 n4 c4 = v := by simpa using hv
    obtain rfl : ys = zs := by simpa using hz
    exact ⟨A4, n4, c4, rfl, b4, h2.alloc _⟩
  | i + 2, hv, hz => simp at hv
set_option maxHeartbeats 400000 in
theorem joined_any (w : World) (A : Option Addr) (n c : Nat) (pss : List (List Int)) (hr : RdL w A n pss) (hn : n ≤ 1000000) (ht : pss.flatten.length ≤ 1000000000) : Calls Try.prog 117 #[.slice A n c] w (RetS w 2 (ints pss.flatten)) := by
  go_enter Try.func117, Try.ntmps117
  go_wp2_with fail
  refine (concatI_any _ _ _ _ pss hr hn ht).mono ?_
  rintro e w1 ⟨A1, n1, c1, rfl, ho1, hb1⟩
  go_wp2_with fail
  go_ret
  exact ⟨A1, n1, c1, rfl, ho1, hb1⟩
set_option maxHeartbeats 4000000 in
theorem contextOf_any (w : World) (st : Int) (A1 : Option Addr) (n1 c1 : Nat) (ls : List Int) (hr1 : Rd w A1 n1 (ints ls)) (hn1 : n1 ≤ 1099511627776) (A2 : Option Addr) (n2 c2 : Nat) (rs : List Int) (hr2 : Rd w A2 n2 (ints rs)) (hn2 : n2 ≤ 1099511627776) (h : Nat) (hh : h ≤ 100) :
    Calls Try.prog 68 #[cfgV st A1 n1 c1 A2 n2 c2, .int .i64 h] w (RetS w 2 (ints (ctxOf ls rs h))) := by
  obtain ⟨w0, hw0⟩ : ∃ w0, w0 = w.alloc (.cells #[.int .i64 st, .slice A1 n1 c1, .slice A2 n2 c2] 44) := ⟨_, rfl⟩
  have hB : Below w.heap.size w w0 := by rw [hw0]; exact below_new w _
  have hx0 : w0.heap[w.heap.size]? = some (.cells #[.int .i64 st, .slice A1 n1 c1, .slice A2 n2 c2] 44 (0, 0)) := by rw [hw0]; exact box_new w _ _
  have y1 := blk_cell hx0 1 rfl
  have y2 := blk_cell hx0 2 rfl
  have HX0 := Lib.hid hx0
  have HR1 := Lib.hid (hr1.below hB (Nat.le_refl _))
  have HR2 := Lib.hid (hr2.below hB (Nat.le_refl _))
  have HB := Lib.hid hB
  have HCX : Hid (ctxOf ls rs h = [cellsF ls 0 h, cellsF rs 0 (h + 1)].flatten) := Lib.hid (by simp [ctxOf])
  have HL3 := Lib.hid (cellsF_len ls 0 h)
  have HL4 := Lib.hid (cellsF_len rs 0 (h + 1))
  have hwh : IntKind.i64.wrap ((h : Int) + 1) = (h : Int) + 1 := IntWalk.i64_in _ (by omega)
  clear hB hx0
  go_enter Try.func68, Try.ntmps68
  go_wp2_with fail
  rw [← hw0]
  clear hw0
  (first
    | (go_region_law (first
        | (have hq3 := HB3.out
           have hq4 := HB4.out
           clear hq3 hq4
           go_simp
           go_at_call 117
           refine (joined_any _ _ 2 _ [cellsF ls 0 h, cellsF rs 0 (h + 1)] (by first | (have hq := rdL2 (T := 25) (c3 := c3) (c4 := c4) (own_rd (ownN_below HO3.out HB4.out (Nat.le_refl _))) (own_rd HO4.out) (by have h8 := HL3.out; have h9 := HO3.out.1; simp at h9; omega) (by have h8 := HL4.out; have h9 := HO4.out.1; simp at h9; omega); exact hq) | (have hq := rdL2 (T := 25) (c3 := c3) (c4 := c4) (own_rd HO3.out) (own_rd (ownN_below HO4.out HB3.out (Nat.le_refl _))) (by have h8 := HL3.out; have h9 := HO3.out.1; simp at h9; omega) (by have h8 := HL4.out; have h9 := HO4.out.1; simp at h9; omega); exact hq)) (by decide) (by simp [cellsF]; omega)).mono ?_
           rintro e w5 ⟨A5, n5, c5, rfl, ho5, hb5⟩)
        | (have hq := HB3.out
           clear hq
           go_simp
           go_at_call 118
           with_reducible refine (cellsFrom_any _ A2 n2 _ rs (by exact HR2.out.below HB3.out (Nat.le_refl _)) hn2 0 (h + 1) _ _ (by omega) (by omega) (by omega) (by omega)).mono ?_
           rintro e w4 ⟨A4, n4, c4, rfl, ho4, hb4⟩
           have HO4 := Lib.hid ho4
           have HB4 := Lib.hid hb4
           clear ho4 hb4
           (try (have hx3 := blk_bel HX0.out HB4.out; clear y1 y2; have y1 := blk_cell hx3 1 rfl; have y2 := blk_cell hx3 2 rfl; clear hx3)))
        | (have hq := HB4.out
           clear hq
           go_simp
           go_at_call 118
           with_reducible refine (cellsFrom_any _ A1 n1 _ ls (by exact HR1.out.below HB4.out (Nat.le_refl _)) hn1 0 h _ _ (by omega) (by omega) (by omega) (by omega)).mono ?_
           rintro e w3 ⟨A3, n3, c3, rfl, ho3, hb3⟩
           have HO3 := Lib.hid ho3
           have HB3 := Lib.hid hb3
           clear ho3 hb3
           (try (have hx3 := blk_bel HX0.out HB3.out; clear y1 y2; have y1 := blk_cell hx3 1 rfl; have y2 := blk_cell hx3 2 rfl; clear hx3)))
        | (go_simp
           go_at_call 118
           with_reducible refine (cellsFrom_any _ A1 n1 _ ls (by exact HR1.out.drew) hn1 0 h _ _ (by omega) (by omega) (by omega) (by omega)).mono ?_
           rintro e w3 ⟨A3, n3, c3, rfl, ho3, hb3⟩
           have HO3 := Lib.hid ho3
           have HB3 := Lib.hid (und1 hb3)
           clear ho3 hb3
           (try (have hx3 := blk_bel HX0.out HB3.out; clear y1 y2; have y1 := blk_cell hx3 1 rfl; have y2 := blk_cell hx3 2 rfl; clear hx3)))
        | (go_simp
           go_at_call 118
           with_reducible refine (cellsFrom_any _ A2 n2 _ rs (by exact HR2.out.drew) hn2 0 (h + 1) _ _ (by omega) (by omega) (by omega) (by omega)).mono ?_
           rintro e w4 ⟨A4, n4, c4, rfl, ho4, hb4⟩
           have HO4 := Lib.hid ho4
           have HB4 := Lib.hid (und1 hb4)
           clear ho4 hb4
           (try (have hx3 := blk_bel HX0.out HB4.out; clear y1 y2; have y1 := blk_cell hx3 1 rfl; have y2 := blk_cell hx3 2 rfl; clear hx3)))))
    | fail)
  all_goals
    (first
      | (have hz : Below w.heap.size w w4 := HB.out.trans ((HB3.out.trans (HB4.out.mono HB3.out.size)).mono HB.out.size)
         have hz5 : Below w.heap.size w w5 := (hz.trans ((below_new w4 _).mono hz.size)).trans (hb5.mono (by have := hz.size; simp; omega))
         have hs5 : w.heap.size ≤ w4.heap.size + 1 := by have := hz.size; omega
         have ho6 := ownN_base (base' := w.heap.size) ho5 (by simp; omega)
         rw [← HCX.out] at ho6
         have HO6 := Lib.hid ho6
         have HZ5 := Lib.hid hz5)
      | (have hz : Below w.heap.size w w3 := HB.out.trans ((HB4.out.trans (HB3.out.mono HB4.out.size)).mono HB.out.size)
         have hz5 : Below w.heap.size w w5 := (hz.trans ((below_new w3 _).mono hz.size)).trans (hb5.mono (by have := hz.size; simp; omega))
         have hs5 : w.heap.size ≤ w3.heap.size + 1 := by have := hz.size; omega
         have ho6 := ownN_base (base' := w.heap.size) ho5 (by simp; omega)
         rw [← HCX.out] at ho6
         have HO6 := Lib.hid ho6
         have HZ5 := Lib.hid hz5))
    clear hz hz5 ho6 ho5 hb5 hs5
    go_wp2_with fail
    go_ret
    exact ⟨A5, n5, c5, rfl, HO6.out, HZ5.out⟩
abbrev coV (A : Option Addr) (n c : Nat) (z : Int) : Value := .tuple #[.slice A n c, .int .i64 z]
set_option maxHeartbeats 4000000 in
theorem implContextOf_any (w : World) (s t : Int) (A : Option Addr) (n c : Nat) (ps : List Rul) (hr : Rd w A (n * 3) (ints (flatR ps))) (hn : n ≤ 1099511627776) (st : Int) (A1 : Option Addr) (n1 c1 : Nat) (ls : List Int) (hr1 : Rd w A1 n1 (ints ls)) (hn1 : n1 ≤ 1099511627776) (A2 : Option Addr) (n2 c2 : Nat) (rs : List Int) (hr2 : Rd w A2 n2 (ints rs)) (hn2 : n2 ≤ 1099511627776) (m : Int) :
    Calls Try.prog 25 #[mchV s t A n c, cfgV st A1 n1 c1 A2 n2 c2, .int .i64 m] w (RetSI w 2 (ints (coP s t ps st ls rs m).1) (coP s t ps st ls rs m).2) := by
  obtain ⟨w0, hw0⟩ : ∃ w0, w0 = (w.alloc (.cells #[.int .i64 s, .int .i64 t, .slice A n c] 31)).alloc (.cells #[.int .i64 st, .slice A1 n1 c1, .slice A2 n2 c2] 44) := ⟨_, rfl⟩
  have hB : Below w.heap.size w w0 := by rw [hw0]; exact (below_new w _).trans ((below_new _ _).mono (by simp))
  have hx0 : w0.heap[w.heap.size]? = some (.cells #[.int .i64 s, .int .i64 t, .slice A n c] 31 (0, 0)) := by rw [hw0]; exact blk_alloc (box_new w _ _) _
  have hx1 : w0.heap[w.heap.size + 1]? = some (.cells #[.int .i64 st, .slice A1 n1 c1, .slice A2 n2 c2] 44 (0, 0)) := by rw [hw0]; have h := box_new (w.alloc (.cells #[.int .i64 s, .int .i64 t, .slice A n c] 31)) #[.int .i64 st, .slice A1 n1 c1, .slice A2 n2 c2] 44; simpa using h
  have HX0 := Lib.hid hx0
  have HX1 := Lib.hid hx1
  have HR := Lib.hid (hr.below hB (Nat.le_refl _))
  have HR1 := Lib.hid (hr1.below hB (Nat.le_refl _))
  have HR2 := Lib.hid (hr2.below hB (Nat.le_refl _))
  have HB := Lib.hid hB
  have z0 := blk_cell hx0 0 rfl
  have z1 := blk_cell hx0 1 rfl
  have z2 := blk_cell hx0 2 rfl
  have y0 := blk_cell hx1 0 rfl
  have y1 := blk_cell hx1 1 rfl
  have y2 := blk_cell hx1 2 rfl
  clear hB hx0 hx1
  cases hv : (okM s t ps && okCf s t st ls rs) with
  | false =>
    have HO := Lib.hid (co_bad (n := m) hv)
    have HV := Lib.hid hv
    clear hv
    rw [HO.out]
    go_enter Try.func25, Try.ntmps25
    go_wp2_with fail
    rw [← hw0]
    clear hw0
    refine (ValidConfig_any _ s t A n c ps HR.out hn st A1 n1 c1 ls HR1.out hn1 A2 n2 c2 rs HR2.out hn2).mono ?_
    rw [HV.out]
    rintro e w2 ⟨rfl, hb2⟩
    go_wp2_with fail
    go_ret2
    exact ⟨none, 0, 0, rfl, own_nil _ _ _, HB.out.trans (hb2.mono HB.out.size)⟩
  | true =>
    have HV := Lib.hid hv
    cases hi : inB m 1 4 with
    | false =>
      have HO := Lib.hid (co_n (n := m) hv hi)
      have HI := Lib.hid hi
      clear hv hi
      rw [HO.out]
      go_enter Try.func25, Try.ntmps25
      go_wp2_with fail
      rw [← hw0]
      clear hw0
      refine (ValidConfig_any _ s t A n c ps HR.out hn st A1 n1 c1 ls HR1.out hn1 A2 n2 c2 rs HR2.out hn2).mono ?_
      rw [HV.out]
      rintro e w2 ⟨rfl, hb2⟩
      go_wp2_with fail
      refine (contextSizeOk_any _ _).mono ?_
      rw [HI.out]
      rintro e w3 ⟨rfl, rfl⟩
      go_wp2_with fail
      go_ret2
      exact ⟨none, 0, 0, rfl, own_nil _ _ _, HB.out.trans (hb2.mono HB.out.size)⟩
    | true =>
      have HO := Lib.hid (co_ok (n := m) hv hi)
      have HI := Lib.hid hi
      obtain ⟨k, rfl⟩ : ∃ k : Nat, m = (k : Int) := ⟨m.toNat, by have h := inB_true.1 hi; omega⟩
      have hk : k ≤ 4 := by have h := inB_true.1 hi; omega
      clear hv hi
      rw [HO.out]
      go_enter Try.func25, Try.ntmps25
      go_wp2_with fail
      rw [← hw0]
      clear hw0
      refine (ValidConfig_any _ s t A n c ps HR.out hn st A1 n1 c1 ls HR1.out hn1 A2 n2 c2 rs HR2.out hn2).mono ?_
      rw [HV.out]
      rintro e w2 ⟨rfl, hb2⟩
      go_wp2_with fail
      refine (contextSizeOk_any _ _).mono ?_
      rw [HI.out]
      rintro e w3 ⟨rfl, rfl⟩
      have hx1 := blk_bel HX1.out hb2
      clear z0 z1 z2 y0 y1 y2
      have y0 := blk_cell hx1 0 rfl
      have y1 := blk_cell hx1 1 rfl
      have y2 := blk_cell hx1 2 rfl
      have HB2 := Lib.hid hb2
      clear hb2 hx1
      go_wp2_with fail
      refine (contextOf_any _ st A1 n1 c1 ls (by exact HR1.out.below HB2.out (Nat.le_refl _)) hn1 A2 n2 c2 rs (by exact HR2.out.below HB2.out (Nat.le_refl _)) hn2 k (by omega)).mono ?_
      rintro e w4 ⟨A4, n4, c4, rfl, ho4, hb4⟩
      have HO4 := Lib.hid ho4
      have HB4 := Lib.hid hb4
      clear ho4 hb4
      go_wp2_with fail
      go_ret2
      have hz : Below w.heap.size w w2 := HB.out.trans (HB2.out.mono HB.out.size)
      exact ⟨A4, n4, c4, rfl, by simpa using ownN_base HO4.out hz.size, hz.trans (HB4.out.mono hz.size)⟩
end Go.Proofs.Ytjgajjcgapifoaa
