/- The program's count with its memo. -/
import Derived.Test.YtilbgbibddjdcaaMemo
import Derived.Test.YtilbgbibddjdcaaFoot
import Derived.Maps.OwnOps
namespace Go.Proofs.Ytilbgbibddjdcaa
open Go.RowKit
open Go.Maps (Keyed Tidy IsMap)
set_option linter.unusedVariables false
set_option linter.unusedSimpArgs false

def CPost (w : World) (B : Nat) (n : Nat) (e : Ending) (w' : World) : Prop := e = .returned (.int .i64 n) ∧ MemoOk w' B ∧ Ch (· = B) w w'
theorem MemoOk.lt {w : World} {B : Nat} (h : MemoOk w B) : B < w.heap.size := by
  obtain ⟨es, h1, _⟩ := h
  exact h1.lt
theorem MemoOk.alloc {w : World} {B : Nat} (h : MemoOk w B) (o : Obj) : MemoOk (w.alloc o) B := h.kept (World.grownBy_alloc w o none) (by simp)
theorem min_small {c1 c2 : Nat} (h : c1 + c2 ≤ 1000000000001) : min 1000000000001 (c1 + c2) = c1 + c2 := Nat.min_eq_right h
theorem min_big {c1 c2 : Nat} (h : 1000000000001 ≤ c1 + c2) : min 1000000000001 (c1 + c2) = 1000000000001 := Nat.min_eq_left h
theorem cell_new2 (w : World) (v : Value) (T : Nat) (hT : v.cells = #[.int .i64 0, .int .i64 0]) : True := trivial
set_option maxHeartbeats 4000000 in
set_option maxRecDepth 100000 in
theorem count_at : ∀ (m a o : Nat), a ≤ m → a + o ≤ 62 → ∀ (x y : Int), x = (a : Int) → y = (o : Int) → ∀ (w : World) (B : Nat), MemoOk w B → Calls Try.prog 61 #[.map (some B), .int .i64 x, .int .i64 y] w (CPost w B (cnt a o)) := by
  intro m
  induction m with
  | zero =>
    rintro a o ha hao x y rfl rfl w B hm
    obtain rfl : a = 0 := by omega
    rcases Nat.eq_zero_or_pos o with rfl | ho
    · go_enter Try.func61, Try.ntmps61
      go_wp2_with fail
      go_ret
      exact ⟨rfl, hm, Ch.refl _ _⟩
    · have HZ := Lib.hid (cnt_lt 0 o ho)
      have b1 : ((o : Int) == 0) = false := by simp; omega
      have b2 : decide ((0 : Int) < (o : Int)) = true := by simp; omega
      have b3 : ((o : Int) = 0) = False := by simp; omega
      go_enter Try.func61, Try.ntmps61
      go_wp2_with fail
      go_ret
      exact ⟨by rw [HZ.out]; rfl, hm, Ch.refl _ _⟩
  | succ m ih =>
    rintro a o ha hao x y rfl rfl w B hm
    have HM := Lib.hid hm
    have HI := Lib.hid ih
    clear ih
    rcases Nat.eq_zero_or_pos a with rfl | hap
    · exact (HI.out 0 o (by omega) hao _ _ rfl rfl w B hm)
    rcases Nat.eq_zero_or_pos o with rfl | ho
    · have HZ := Lib.hid (cnt_zero a hap)
      have b1 : ((a : Int) == 0) = false := by simp; omega
      go_enter Try.func61, Try.ntmps61
      go_wp2_with fail
      go_ret
      exact ⟨by rw [HZ.out]; rfl, hm, Ch.refl _ _⟩
    by_cases hlt : a < o
    · have HZ := Lib.hid (cnt_lt a o hlt)
      have b1 : ((o : Int) == 0) = false := by simp; omega
      have b2 : ((a : Int) == 0) = false := by simp; omega
      go_enter Try.func61, Try.ntmps61
      go_wp2_with fail
      go_ret
      exact ⟨by rw [HZ.out]; rfl, hm, Ch.refl _ _⟩
    · have HS := Lib.hid (cnt_step a o ho hap)
      have b1 : ((o : Int) == 0) = false := by simp; omega
      have b2 : decide ((a : Int) < (o : Int)) = false := by simp; omega
      have hBl := hm.lt
      obtain ⟨es, hown, hme, hel⟩ := hm
      have hx1 := box_new w #[.int .i64 (a : Int), .int .i64 (o : Int)] 120
      have q0 := blk_cell hx1 0 rfl
      have q1 := blk_cell hx1 1 rfl
      have hown1 := hown.alloc (.cells #[.int .i64 (a : Int), .int .i64 (o : Int)] 120)
      have HE := Lib.hid hme
      have HO := Lib.hid hown
      have HX1 := Lib.hid hx1
      clear hme hown hx1
      have HK := Lib.hid (keyEnd a o (by omega) (by omega))
      go_enter Try.func61, Try.ntmps61
      cases hh : Maps.has (.map es : DataW Unit) (kOf a o) with
      | true =>
        have HH := Lib.hid hh
        clear hh
        go_wp2_with (at_lookup; go_must (refine wpList_lookup_own_ok_int _ rfl _ _ 67 rfl 120 2 .i64 lawEnd Try.underlying67 Try.underlying2 (zeroI _) B _ _ rfl (by exact hown1) _ _ rfl (by exact HK.out) ?_; rw [HH.out]; intro cc hat hwc; have HA := Lib.hid hat; clear hat hwc))
        go_ret
        exact ⟨by rw [memo_get HE.out (by omega) (by omega) HH.out HA.out]; rfl, HM.out.alloc _, ch_alloc _ _ _⟩
      | false =>
        have HH := Lib.hid hh
        clear hh
        go_wp2_with (at_lookup; go_must (refine wpList_lookup_own_ok_int _ rfl _ _ 67 rfl 120 2 .i64 lawEnd Try.underlying67 Try.underlying2 (zeroI _) B _ _ rfl (by exact hown1) _ _ rfl (by exact HK.out) ?_; rw [HH.out]; intro cc hat hwc; clear hat hwc))
        have hle1 := cnt_le (a - 1) (o - 1)
        have hle2 := cnt_le (a - 1) (o + 1)
        refine (HI.out (a - 1) (o - 1) (by omega) (by omega) _ _ (by omega) (by omega) _ B (HM.out.alloc _)).mono ?_
        rintro e w2 ⟨rfl, hm2, hc2⟩
        have HX2 := Lib.hid (blk_ch HX1.out hc2 (by omega))
        have HM2 := Lib.hid hm2
        have HC2 := Lib.hid ((ch_alloc (· = B) w _).trans hc2)
        clear hm2 hc2 hown1
        generalize cnt (a - 1) (o - 1) = c1 at *
        go_wp2_with fail
        refine (HI.out (a - 1) (o + 1) (by omega) (by omega) _ _ (by omega) (by omega) _ B HM2.out).mono ?_
        rintro e w3 ⟨rfl, hm3, hc3⟩
        generalize cnt (a - 1) (o + 1) = c2 at *
        have hx3 := blk_ch HX2.out hc3 (by omega)
        have HC3 := Lib.hid (HC2.out.trans hc3)
        obtain ⟨es3, hown3, hme3, hel3⟩ := hm3
        have q0 := blk_cell hx3 0 rfl
        have q1 := blk_cell hx3 1 rfl
        have HE3 := Lib.hid hme3
        clear hme3 hc3 hx3
        by_cases hbig : c1 + c2 < 1000000000001
        · have hv1 : (c1 : Int) + (c2 : Int) < 1000000000001 := by omega
          have HV : Hid (((cnt a o : Nat) : Int) = (c1 : Int) + (c2 : Int)) := Lib.hid (by rw [HS.out, Nat.min_eq_right (by omega)]; omega)
          go_wp2_with (at_mapUpdate; go_must (refine wpList_mapUpdate_own _ rfl _ _ _ 67 rfl 120 2 lawEnd Try.underlying67 _ B es3.length (.map es3) rfl (by exact hown3) (by unfold maxLen; omega) _ _ (kOf a o) rfl rfl HK.out (.lit (.int .i64 (cnt a o))) [] (by rw [HV.out]; exact plainElem_int Try.underlying2 (by simp [Lit.wf, IntKind.min, IntKind.max, IntKind.bits, IntKind.signed]; omega)) ?_); intro w4 hown4 hg4)
          go_ret
          exact ⟨by rw [HV.out]; rfl, MemoOk.put hown4 HE3.out (by omega) (by omega), HC3.out.trans (ch_grown hg4 (by intro k hk; cases hk; rfl))⟩
        · have hv1 : 1000000000001 ≤ (c1 : Int) + (c2 : Int) := by omega
          have HV : Hid (((cnt a o : Nat) : Int) = 1000000000001) := Lib.hid (by rw [HS.out, Nat.min_eq_left (by omega)]; rfl)
          go_wp2_with (at_mapUpdate; go_must (refine wpList_mapUpdate_own _ rfl _ _ _ 67 rfl 120 2 lawEnd Try.underlying67 _ B es3.length (.map es3) rfl (by exact hown3) (by unfold maxLen; omega) _ _ (kOf a o) rfl rfl HK.out (.lit (.int .i64 (cnt a o))) [] (by rw [HV.out]; exact plainElem_int Try.underlying2 (by decide)) ?_); intro w4 hown4 hg4)
          go_ret
          exact ⟨by rw [HV.out]; rfl, MemoOk.put hown4 HE3.out (by omega) (by omega), HC3.out.trans (ch_grown hg4 (by intro k hk; cases hk; rfl))⟩
theorem count_any (w : World) (B : Nat) (h : MemoOk w B) (a o : Nat) (hao : a + o ≤ 62) (x y : Int) (hx : x = (a : Int)) (hy : y = (o : Int)) : Calls Try.prog 61 #[.map (some B), .int .i64 x, .int .i64 y] w (CPost w B (cnt a o)) :=
  count_at a a o (Nat.le_refl _) hao x y hx hy w B h
end Go.Proofs.Ytilbgbibddjdcaa
