/- CheckContexts (reference). -/
import Derived.Test.YtemllhkgjdifiaaCkU
namespace Go.Proofs.Ytemllhkgjdifiaa
open Go.RowKit
set_option linter.unusedVariables false
set_option linter.unusedSimpArgs false
/-- What CheckContexts answers. -/
def chkA (s t : Int) (rs : List Rul) (k : Int) (ns : List Int) (ws : List (List Int)) : Bool := okM s t rs && okP k ns ws && chkR s t rs k ns ws
set_option maxHeartbeats 4000000 in
theorem specCheckContexts_any (w : World) (s t : Int) (A : Option Addr) (n c : Nat) (rs : List Rul) (hr : Rd w A (n * 3) (ints (flatR rs))) (hn : n ≤ 1099511627776) (k : Int) (A1 : Option Addr) (n1 c1 : Nat) (ns : List Int) (hr1 : Rd w A1 n1 (ints ns)) (hn1 : n1 ≤ 1000000000) (hc1 : n1 ≤ c1) (A2 : Option Addr) (n2 c2 : Nat) (ws : List (List Int)) (hr2 : RdL w A2 n2 ws) (hn2 : n2 ≤ 1000000000) :
    Calls Try.prog 24 #[mchV s t A n c, prfV k A1 n1 c1 A2 n2 c2] w (RetV w (.bool (chkA s t rs k ns ws))) := by
  obtain ⟨w0, hw0⟩ : ∃ w0, w0 = (w.alloc (.cells #[.int .i64 s, .int .i64 t, .slice A n c] 33)).alloc (.cells #[.int .i64 k, .slice A1 n1 c1, .slice A2 n2 c2] 47) := ⟨_, rfl⟩
  have hB : Below w.heap.size w w0 := by rw [hw0]; exact (below_new w _).trans ((below_new _ _).mono (by simp))
  have hx0 : BM w0 w.heap.size s t A n c := by rw [hw0]; exact blk_alloc (box_new w _ _) _
  have hx1 : BP w0 (w.heap.size + 1) k A1 n1 c1 A2 n2 c2 := by rw [hw0]; have h := box_new (w.alloc (.cells #[.int .i64 s, .int .i64 t, .slice A n c] 33)) #[.int .i64 k, .slice A1 n1 c1, .slice A2 n2 c2] 47; simpa [BP] using h
  have HM := Lib.hid hx0; have HP := Lib.hid hx1
  have HR := Lib.hid (hr.below hB (Nat.le_refl _)); have HR1 := Lib.hid (hr1.below hB (Nat.le_refl _)); have HR2 := Lib.hid (hr2.below hB (Nat.le_refl _)); have HB := Lib.hid hB
  clear hx0 hx1 hr hr1 hr2 hB
  go_enter Try.func24, Try.ntmps24
  go_wp2_with fail
  rw [← hw0]
  clear hw0
  refine (l05Is_any w0 w.heap.size s t A n c HM.out rs HR.out hn).mono ?_
  cases hok : okM s t rs with
  | false =>
    have HO : Hid (chkA s t rs k ns ws = false) := Lib.hid (by unfold chkA; rw [hok]; rfl)
    clear hok
    rintro e w1 ⟨rfl, hb⟩
    go_wp2_with fail
    go_ret
    exact ⟨by rw [HO.out]; rfl, HB.out.trans (hb.mono HB.out.size)⟩
  | true =>
    have HOK := Lib.hid hok
    clear hok
    rintro e w1 ⟨rfl, hb⟩
    have HM1 := Lib.hid (HM.out.bel hb); have HP1 := Lib.hid (HP.out.bel hb); have HRa := Lib.hid (HR.out.below hb (Nat.le_refl _)); have HR1a := Lib.hid (HR1.out.below hb (Nat.le_refl _)); have HR2a := Lib.hid (HR2.out.below hb (Nat.le_refl _)); have HB1 := Lib.hid (HB.out.trans (hb.mono HB.out.size))
    clear hb HM HP HR HR1 HR2 HB
    go_wp2_with fail
    refine (l25Is_any w1 _ k A1 n1 c1 A2 n2 c2 HP1.out ns HR1a.out hn1 ws HR2a.out hn2).mono ?_
    cases hkp : okP k ns ws with
    | false =>
      have HO : Hid (chkA s t rs k ns ws = false) := Lib.hid (by unfold chkA; rw [hkp]; simp)
      clear hkp
      rintro e w2 ⟨rfl, hb⟩
      go_wp2_with fail
      go_ret
      exact ⟨by rw [HO.out]; rfl, HB1.out.trans (hb.mono HB1.out.size)⟩
    | true =>
      have HKP := Lib.hid hkp
      have HO : Hid (chkA s t rs k ns ws = chkR s t rs k ns ws) := Lib.hid (by unfold chkA; rw [HOK.out, hkp]; rfl)
      clear hkp
      rintro e w2 ⟨rfl, hb⟩
      have HB2 := Lib.hid (HB1.out.trans (hb.mono HB1.out.size))
      have HM2 := Lib.hid (HM1.out.bel hb); have HP2 := Lib.hid (HP1.out.bel hb); have HRb := Lib.hid (HRa.out.below hb (Nat.le_refl _)); have HR1b := Lib.hid (HR1a.out.below hb (Nat.le_refl _)); have HR2b := Lib.hid (HR2a.out.below hb (Nat.le_refl _))
      clear hb
      go_wp2_with fail
      refine (l29Check_any w2 _ s t A n c HM2.out rs HRb.out hn HOK.out _ k A1 n1 c1 A2 n2 c2 HP2.out ns HR1b.out hn1 hc1 ws HR2b.out hn2 HKP.out).mono ?_
      rintro e w3 ⟨rfl, hb⟩
      generalize chkR s t rs k ns ws = z at *
      go_wp2_with fail
      go_ret
      exact ⟨by rw [HO.out]; rfl, HB2.out.trans (hb.mono HB2.out.size)⟩
end Go.Proofs.Ytemllhkgjdifiaa
