/- LostWindow: the program's answer. -/
import Derived.Test.YtjgajjcgapifoaaCtxL
namespace Go.Proofs.Ytjgajjcgapifoaa
open Go.RowKit
set_option linter.unusedVariables false
set_option linter.unusedSimpArgs false
def LwPost (w : World) (r : Int × List Int × Int) (e : Ending) (w' : World) : Prop :=
  ∃ A n c, e = .returned (.tuple #[.int .i64 r.1, .slice A n c, .int .i64 r.2.2]) ∧ w'.ownsRow w.heap.size 2 1 (.slice A n c) n (ints r.2.1) ∧ Below w.heap.size w w'
set_option maxHeartbeats 4000000 in
theorem implLostWindow_any (w : World) (s t : Int) (A : Option Addr) (n c : Nat) (rs : List Rul) (hr : Rd w A (n * 3) (ints (flatR rs))) (hn : n ≤ 1099511627776) (st : Int) (A1 : Option Addr) (n1 c1 : Nat) (xs : List Int) (hr1 : Rd w A1 n1 (ints xs)) (hn1 : n1 ≤ 1099511627776) (hc1 : n1 ≤ c1) :
    Calls Try.prog 16 #[mchV s t A n c, .int .i64 st, .slice A1 n1 c1] w (LwPost w (lwP s t rs st xs)) := by
  obtain ⟨w0, hw0⟩ : ∃ w0, w0 = w.alloc (.cells #[.int .i64 s, .int .i64 t, .slice A n c] 31) := ⟨_, rfl⟩
  have hB : Below w.heap.size w w0 := by rw [hw0]; exact below_new w _
  have hx0 : w0.heap[w.heap.size]? = some (.cells #[.int .i64 s, .int .i64 t, .slice A n c] 31 (0, 0)) := by rw [hw0]; exact box_new w _ _
  have HX0 := Lib.hid hx0
  have HR := Lib.hid (hr.below hB (Nat.le_refl _))
  have HR1 := Lib.hid (hr1.below hB (Nat.le_refl _))
  have HB := Lib.hid hB
  have z0 := blk_cell hx0 0 rfl
  have z1 := blk_cell hx0 1 rfl
  have z2 := blk_cell hx0 2 rfl
  clear hB hx0
  by_cases hz : ctxC s t rs st xs = 0
  · have HZ := Lib.hid hz
    cases hR : isR (ruleOf s rs st xs) with
    | false =>
      have HO := Lib.hid (lw_no hz hR)
      have HRR := Lib.hid hR
      rw [HO.out]
      clear hz hR
      go_enter Try.func16, Try.ntmps16
      go_wp2_with fail
      rw [← hw0]
      clear hw0
      refine (contextCode_any _ s t A n c rs HR.out hn st A1 n1 c1 xs HR1.out hn1).mono ?_
      rw [HZ.out]
      rintro e w2 ⟨rfl, hb2⟩
      have hx0 := blk_bel HX0.out hb2
      clear z0 z1 z2
      have z0 := blk_cell hx0 0 rfl
      have z1 := blk_cell hx0 1 rfl
      have z2 := blk_cell hx0 2 rfl
      have HB2 := Lib.hid (HB.out.trans (hb2.mono HB.out.size))
      have HR2 := Lib.hid (HR.out.below hb2 (Nat.le_refl _))
      have HR3 := Lib.hid (HR1.out.below hb2 (Nat.le_refl _))
      clear hb2 hx0
      go_wp2_with fail
      refine (lost_any _ s t A n c rs HR2.out hn st A1 n1 c1 xs HR3.out hc1 HZ.out).mono ?_
      unfold LosP
      rw [HRR.out]
      generalize ruleOf s rs st xs = rr at *
      rintro e w3 ⟨A3, n3, c3, rfl, ho3, hb3⟩
      have HB3 := Lib.hid (HB2.out.trans (hb3.mono HB2.out.size))
      clear ho3 hb3
      obtain ⟨ra, rb, rc⟩ := rr
      go_wp2_with fail
      go_ret3
      exact ⟨none, 0, 0, rfl, own_nil _ _ _, HB3.out.trans ((below_new _ _).mono HB3.out.size)⟩
    | true =>
      have HO := Lib.hid (lw_ok hz hR)
      have HRR := Lib.hid hR
      rw [HO.out]
      clear hz hR
      go_enter Try.func16, Try.ntmps16
      go_wp2_with fail
      rw [← hw0]
      clear hw0
      refine (contextCode_any _ s t A n c rs HR.out hn st A1 n1 c1 xs HR1.out hn1).mono ?_
      rw [HZ.out]
      rintro e w2 ⟨rfl, hb2⟩
      have hx0 := blk_bel HX0.out hb2
      clear z0 z1 z2
      have z0 := blk_cell hx0 0 rfl
      have z1 := blk_cell hx0 1 rfl
      have z2 := blk_cell hx0 2 rfl
      have HB2 := Lib.hid (HB.out.trans (hb2.mono HB.out.size))
      have HR2 := Lib.hid (HR.out.below hb2 (Nat.le_refl _))
      have HR3 := Lib.hid (HR1.out.below hb2 (Nat.le_refl _))
      clear hb2 hx0
      go_wp2_with fail
      refine (lost_any _ s t A n c rs HR2.out hn st A1 n1 c1 xs HR3.out hc1 HZ.out).mono ?_
      unfold LosP
      rw [HRR.out]
      generalize ruleOf s rs st xs = rr at *
      rintro e w3 ⟨A3, n3, c3, rfl, ho3, hb3⟩
      rw [if_pos rfl] at ho3
      have HO3 := Lib.hid (ownN_base ho3 HB2.out.size)
      have HB3 := Lib.hid (HB2.out.trans (hb3.mono HB2.out.size))
      clear ho3 hb3
      obtain ⟨ra, rb, rc⟩ := rr
      go_wp2_with fail
      go_ret3
      exact ⟨A3, n3, c3, rfl, ownN_below HO3.out (below_new _ _) (Nat.le_refl _), HB3.out.trans ((below_new _ _).mono HB3.out.size)⟩
  · have HO := Lib.hid (lw_bad hz)
    rw [HO.out]
    clear HO
    have hzb : (ctxC s t rs st xs != 0) = true := by simpa using hz
    go_enter Try.func16, Try.ntmps16
    go_wp2_with fail
    rw [← hw0]
    clear hw0
    refine (contextCode_any _ s t A n c rs HR.out hn st A1 n1 c1 xs HR1.out hn1).mono ?_
    generalize ctxC s t rs st xs = z at *
    rintro e w2 ⟨rfl, hb2⟩
    go_wp2_with fail
    go_ret3
    exact ⟨none, 0, 0, rfl, own_nil _ _ _, HB.out.trans (hb2.mono HB.out.size)⟩
end Go.Proofs.Ytjgajjcgapifoaa
