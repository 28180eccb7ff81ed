/- Programs of registers (reference): joined, repeated, chosen. -/
import Derived.Test.YtgnboemmlohahaaRrG
namespace Go.Proofs.Ytgnboemmlohahaa
open Go.RowKit
set_option linter.unusedVariables false
set_option linter.unusedSimpArgs false
attribute [local go_sem ↓] Go.wp_at_zero Go.wp_at_succ
theorem join_eqF {p q : List Ins} {n m : Nat} (hp : p.length = n) : p ++ q.map (redI (m : Int) ((n : Int) + (m : Int)) (n : Int)) = joinR p q := by
  rw [Int.add_comm, redI_sh, joinR, hp]
theorem join_ok {p q : List Ins} (hp : okProg p = true) (hq : okProg q = true) (hl : p.length + q.length ≤ 400) : okProg (joinR p q) = true := by
  have e : (joinR p q).length = p.length + q.length := by simp [joinR]
  refine okProg_mk e hl ?_
  rw [joinR, ← redI_sh q.length p.length, List.all_append, Bool.and_eq_true]
  refine ⟨?_, map_ok (okProg_all hq) (by omega) (by omega)⟩
  have h := map_ok (h := (p.length : Int)) (a := 0) (L := ((p.length + q.length : Nat) : Int)) (okProg_all hp) (by omega) (by omega)
  rwa [redI_id] at h
set_option maxHeartbeats 2000000 in
set_option maxRecDepth 100000 in
theorem l07Join_any (w : World) (A : Option Addr) (n c : Nat) (p : List Ins) (hr : Rd w A (n * 4) (ints (flatI p))) (hp : okProg p = true) (A' : Option Addr) (n' c' : Nat) (q : List Ins) (hr' : Rd w A' (n' * 4) (ints (flatI q))) (hq : okProg q = true) :
    Calls Try.prog 29 #[.slice A n c, .slice A' n' c'] w (ProgE w (n + n') (joinR p q)) := by
  have hn : n ≤ 400 := by have := ok_lenF hp; have := rd_lenF hr; omega
  have hn' : n' ≤ 400 := by have := ok_lenF hq; have := rd_lenF hr'; omega
  have HPL := Lib.hid (rd_lenF hr)
  have HN : Hid (n + n' ≤ 1099511627776) := Lib.hid (by omega)
  have HW := Lib.hid (wr_of (x := (n : Int) + (n' : Int)) (by omega) (by omega))
  have H1 := Lib.hid (fun (w2 : World) (hb2 : Below w.heap.size w w2) => l07Shift_any w2 A' n' c' q (hr'.below hb2 (Nat.le_refl _)) hq (n : Int) ((n : Int) + (n' : Int)) (by omega))
  have hown := ownN_lit w #[] 0 4 49 rfl (by omega)
  go_enter Try.func29, Try.ntmps29
  go_upto_region 3 with (at_builtin; go_must (refine wpList_appSN eltIn rfl _ _ rfl (w.alloc (.cells #[] 49)) w.heap.size _ 0 _ (by rfl) hown _ n c (ints (flatI p)) (by rfl) (hr.alloc _) (ints_one1 _) (by simp) (by omega) ?_); rintro A1 c1 w1 ho1 hb1 _
                         have HO1 : Hid (w1.ownsRow w.heap.size 49 4 (.slice A1 n c1) n (ints (flatI p))) := Lib.hid (by simpa using ho1)
                         have HB1 : Hid (Below w.heap.size w w1) := Lib.hid ((below_new _ _).trans hb1)
                         have H11 := Lib.hid (H1.out w1 HB1.out)
                         rw [Nat.zero_add]
                         clear ho1 hb1)
  clear hr hr' hp hq hown
  have hw := HW.out
  go_wp2_with (first
    | (go_at_call 41
       refine H11.out.mono ?_
       rintro e w2 ⟨A2, c2, rfl, ho2, hb2⟩
       have HO2 := Lib.hid (ownN_rd ho2)
       have HO12 := Lib.hid (ownN_below HO1.out hb2 (Nat.le_refl _))
       have HB2 : Hid (Below w.heap.size w w2) := Lib.hid (bqc hb2 HB1.out)
       clear ho2 hb2 hw)
    | (at_builtin; go_must (refine wpList_appSN eltIn rfl _ _ rfl w2 w.heap.size _ n _ (by rfl) HO12.out A2 n' c2 _ (by rfl) HO2.out (ints_one1 _) HB2.out.size HN.out ?_); rintro A3 c3 w3 ho3 hb3 _
       have HO3 := Lib.hid ho3
       have HB3 : Hid (Below w.heap.size w w3) := Lib.hid (HB2.out.trans hb3)
       clear ho3 hb3))
  go_ret
  refine ⟨A3, c3, rfl, ?_, HB3.out⟩
  have h5 := HO3.out
  rwa [ints_two, ← flatI_app, join_eqF HPL.out] at h5
/-- What a loop is. -/
def loopR (r : Int) (n : Nat) (p : List Ins) : List Ins := ⟨1, r, 1, (n : Int) + 2⟩ :: ⟨0, r, 2, 0⟩ :: p.map (redI n 0 2)
theorem loop_ok {r : Int} {n : Nat} {p : List Ins} (hr : 0 ≤ r ∧ r ≤ 23) (hp : okProg p = true) (hn : p.length = n) (hl : n ≤ 300) : okProg (loopR r n p) = true := by
  refine okProg_mk (n := n + 2) (by simp [loopR, hn]) (by omega) ?_
  have h := map_ok (h := 0) (a := 2) (L := ((n + 2 : Nat) : Int)) (okProg_all hp) (by omega) (by omega)
  rw [hn] at h
  simp only [loopR, List.all_cons, Bool.and_eq_true]
  exact ⟨okIns_mk hr (by simp only; omega) (.inr ⟨rfl, by simp only; omega, by simp only; omega⟩), okIns_mk hr (by simp only; omega) (.inl ⟨rfl, rfl⟩), h⟩
set_option maxHeartbeats 2000000 in
set_option maxRecDepth 100000 in
theorem l07Loop_any (w : World) (r : Int) (A : Option Addr) (n c : Nat) (p : List Ins) (hr : Rd w A (n * 4) (ints (flatI p))) (hp : okProg p = true) (hn0 : 0 < n) :
    Calls Try.prog 28 #[.int .i64 r, .slice A n c] w (ProgE w (2 + n) (loopR r n p)) := by
  have hn : n ≤ 400 := by have := ok_lenF hp; have := rd_lenF hr; omega
  have HPL := Lib.hid (rd_lenF hr)
  have HN : Hid (2 + n ≤ 1099511627776) := Lib.hid (by omega)
  have HW := Lib.hid (wr_of (x := (n : Int) + 2) (by omega) (by omega))
  have hq0 : ((n : Int) == 0) = false := by rw [beq_eq_false_iff_ne]; omega
  obtain ⟨w1, hw1⟩ : ∃ w1, w1 = w.alloc (.cells #[.int .i64 1, .int .i64 r, .int .i64 1, .int .i64 ((n : Int) + 2), .int .i64 0, .int .i64 r, .int .i64 2, .int .i64 0] 49) := ⟨_, rfl⟩
  have HO1 : Hid (w1.ownsRow w.heap.size 49 4 (.slice (some ⟨w.heap.size, 0, none⟩) 2 2) 2 (ints (flatI [⟨1, r, 1, (n : Int) + 2⟩, ⟨0, r, 2, 0⟩]))) := Lib.hid (by
    rw [hw1]; exact ownN_lit w #[.int .i64 1, .int .i64 r, .int .i64 1, .int .i64 ((n : Int) + 2), .int .i64 0, .int .i64 r, .int .i64 2, .int .i64 0] 2 4 49 rfl (by omega))
  have HB1 : Hid (Below w.heap.size w w1) := Lib.hid (by rw [hw1]; exact below_new _ _)
  have H1 := Lib.hid (l07Shift_any w1 A n c p (hr.below HB1.out (Nat.le_refl _)) hp 2 0 (by omega))
  clear hr hp hn0
  have hw := HW.out
  go_enter Try.func28, Try.ntmps28
  go_upto_region 3 with fail
  rw [← hw1]
  clear hw1
  go_wp2_with (first
    | (go_at_call 41
       refine H1.out.mono ?_
       rintro e w2 ⟨A2, c2, rfl, ho2, hb2⟩
       have HO2 := Lib.hid (ownN_rd ho2)
       have HO12 := Lib.hid (ownN_below HO1.out hb2 (Nat.le_refl _))
       have HB2 : Hid (Below w.heap.size w w2) := Lib.hid (bqc hb2 HB1.out)
       clear ho2 hb2 hw)
    | (at_builtin; go_must (refine wpList_appSN eltIn rfl _ _ rfl w2 w.heap.size _ 2 _ (by rfl) HO12.out A2 n c2 _ (by rfl) HO2.out (ints_one1 _) HB2.out.size HN.out ?_); rintro A3 c3 w3 ho3 hb3 _
       have HO3 := Lib.hid ho3
       have HB3 : Hid (Below w.heap.size w w3) := Lib.hid (HB2.out.trans hb3)
       clear ho3 hb3))
  go_ret
  refine ⟨A3, c3, rfl, ?_, HB3.out⟩
  have h5 := HO3.out
  rwa [ints_two, ← flatI_app] at h5
def branchR (r : Int) (n m : Nat) (z o : List Ins) : List Ins := (⟨1, r, 1, (m : Int) + 2⟩ :: ⟨0, r, 2, 0⟩ :: o.map (redI m ((m : Int) + 2 + n) 2)) ++ z.map (redI n ((m : Int) + 2 + n) ((m : Int) + 2))
theorem branch_ok {r : Int} {n m : Nat} {z o : List Ins} (hr : 0 ≤ r ∧ r ≤ 23) (hz : okProg z = true) (hn : z.length = n) (ho : okProg o = true) (hm : o.length = m) (hl : n + m ≤ 300) : okProg (branchR r n m z o) = true := by
  refine okProg_mk (n := m + 2 + n) (by simp [branchR, hn, hm]; omega) (by omega) ?_
  have h := map_ok (h := (m : Int) + 2 + n) (a := 2) (L := ((m + 2 + n : Nat) : Int)) (okProg_all ho) (by omega) (by omega)
  have h' := map_ok (h := (m : Int) + 2 + n) (a := (m : Int) + 2) (L := ((m + 2 + n : Nat) : Int)) (okProg_all hz) (by omega) (by omega)
  rw [hm] at h
  rw [hn] at h'
  simp only [branchR, List.all_append, List.all_cons, Bool.and_eq_true]
  exact ⟨⟨okIns_mk hr (by simp only; omega) (.inr ⟨rfl, by simp only; omega, by simp only; omega⟩), okIns_mk hr (by simp only; omega) (.inl ⟨rfl, rfl⟩), h⟩, h'⟩
set_option maxHeartbeats 2000000 in
set_option maxRecDepth 100000 in
theorem l07Branch_any (w : World) (r : Int) (A : Option Addr) (n c : Nat) (p : List Ins) (hr : Rd w A (n * 4) (ints (flatI p))) (hp : okProg p = true) (A' : Option Addr) (m c' : Nat) (q : List Ins) (hr' : Rd w A' (m * 4) (ints (flatI q))) (hq : okProg q = true) (hm0 : 0 < m) :
    Calls Try.prog 31 #[.int .i64 r, .slice A n c, .slice A' m c'] w (ProgE w (2 + m + n) (branchR r n m p q)) := by
  have hn : n ≤ 400 := by have := ok_lenF hp; have := rd_lenF hr; omega
  have hm : m ≤ 400 := by have := ok_lenF hq; have := rd_lenF hr'; omega
  have HN : Hid (2 + m ≤ 1099511627776) := Lib.hid (by omega)
  have HN2 : Hid (2 + m + n ≤ 1099511627776) := Lib.hid (by omega)
  have HW := Lib.hid (wr_of (x := (m : Int) + 2) (by omega) (by omega))
  have HW2 := Lib.hid (wr_of (x := (m : Int) + 2 + (n : Int)) (by omega) (by omega))
  have hq0 : ((m : Int) == 0) = false := by rw [beq_eq_false_iff_ne]; omega
  obtain ⟨w1, hw1⟩ : ∃ w1, w1 = w.alloc (.cells #[.int .i64 1, .int .i64 r, .int .i64 1, .int .i64 ((m : Int) + 2), .int .i64 0, .int .i64 r, .int .i64 2, .int .i64 0] 49) := ⟨_, rfl⟩
  have HO1 : Hid (w1.ownsRow w.heap.size 49 4 (.slice (some ⟨w.heap.size, 0, none⟩) 2 2) 2 (ints (flatI [⟨1, r, 1, (m : Int) + 2⟩, ⟨0, r, 2, 0⟩]))) := Lib.hid (by
    rw [hw1]; exact ownN_lit w #[.int .i64 1, .int .i64 r, .int .i64 1, .int .i64 ((m : Int) + 2), .int .i64 0, .int .i64 r, .int .i64 2, .int .i64 0] 2 4 49 rfl (by omega))
  have HB1 : Hid (Below w.heap.size w w1) := Lib.hid (by rw [hw1]; exact below_new _ _)
  have H1 := Lib.hid (l07Shift_any w1 A' m c' q (hr'.below HB1.out (Nat.le_refl _)) hq 2 ((m : Int) + 2 + n) (by omega))
  have H2 := Lib.hid (fun (w2 : World) (hb2 : Below w.heap.size w w2) => l07Shift_any w2 A n c p (hr.below hb2 (Nat.le_refl _)) hp ((m : Int) + 2) ((m : Int) + 2 + n) (by omega))
  clear hr hp hm0 hr' hq
  have hw := HW.out
  have hw2 := HW2.out
  go_enter Try.func31, Try.ntmps31
  go_upto_region 4 with fail
  rw [← hw1]
  clear hw1
  go_upto_region 7 with (first
    | (go_at_call 41
       refine H1.out.mono ?_
       rintro e w2 ⟨A2, c2, rfl, ho2, hb2⟩
       have HO2 := Lib.hid (ownN_rd ho2)
       have HO12 := Lib.hid (ownN_below HO1.out hb2 (Nat.le_refl _))
       have HB2 : Hid (Below w.heap.size w w2) := Lib.hid (bqc hb2 HB1.out)
       clear ho2 hb2)
    | (at_builtin; go_must (refine wpList_appSN eltIn rfl _ _ rfl w2 w.heap.size _ 2 _ (by rfl) HO12.out A2 m c2 _ (by rfl) HO2.out (ints_one1 _) HB2.out.size HN.out ?_); rintro A3 c3 w3 ho3 hb3 _
       have HO3 := Lib.hid ho3
       have HB3 : Hid (Below w.heap.size w w3) := Lib.hid (HB2.out.trans hb3)
       have H22 := Lib.hid (H2.out w3 HB3.out)
       clear ho3 hb3))
  clear hw hw2
  go_wp2_with (first
    | (go_at_call 41
       refine H22.out.mono ?_
       rintro e w4 ⟨A4, c4, rfl, ho4, hb4⟩
       have HO4 := Lib.hid (ownN_rd ho4)
       have HO34 := Lib.hid (ownN_below HO3.out hb4 (Nat.le_refl _))
       have HB4 : Hid (Below w.heap.size w w4) := Lib.hid (bqc hb4 HB3.out)
       clear ho4 hb4)
    | (at_builtin; go_must (refine wpList_appSN eltIn rfl _ _ rfl w4 w.heap.size _ (2 + m) _ (by rfl) HO34.out A4 n c4 _ (by rfl) HO4.out (ints_one1 _) HB4.out.size HN2.out ?_); rintro A5 c5 w5 ho5 hb5 _
       have HO5 := Lib.hid ho5
       have HB5 : Hid (Below w.heap.size w w5) := Lib.hid (HB4.out.trans hb5)
       clear ho5 hb5))
  go_ret
  refine ⟨A5, c5, rfl, ?_, HB5.out⟩
  have h5 := HO5.out
  rwa [ints_two, ints_two, ← flatI_app, ← flatI_app] at h5
end Go.Proofs.Ytgnboemmlohahaa
