/- FindAutomaton (program): the code of a budget; the visitor. -/
import Derived.Test.YtcpkhhammafchaaFaQ
namespace Go.Proofs.Ytcpkhhammafchaa
open Go.RowKit
set_option linter.unusedVariables false
set_option linter.unusedSimpArgs false
attribute [local go_sem ↓] Go.wp_at_zero Go.wp_at_succ
def bgC (s t : Int) (rs : List Rul) (b : Int) : Int := if okM s t rs then (if inB b 1 20000 then 0 else 2) else 1
set_option maxHeartbeats 4000000 in
theorem runCode_any (w : World) (s t : Int) (A : Option Addr) (n c : Nat) (rs : List Rul) (hr : Rd w A (n * 3) (ints (flatR rs))) (hn : n ≤ 1099511627776) (b : Int) :
    Calls Try.prog 113 #[mchV s t A n c, cfgV 0 none 0 0 none 0 0, .int .i64 b] w (RetV w (.int .i64 (bgC s t rs b))) := by
  obtain ⟨w0, hw0⟩ : ∃ w0, w0 = (w.alloc (.cells #[.int .i64 s, .int .i64 t, .slice A n c] 53)).alloc (.cells #[.int .i64 0, .slice none 0 0, .slice none 0 0] 170) := ⟨_, rfl⟩
  have hB : Below w.heap.size w w0 := by rw [hw0]; exact bqa (bqa (Below.refl _ _))
  have hx0 : w0.heap[w.heap.size]? = some (.cells #[.int .i64 s, .int .i64 t, .slice A n c] 53 (0, 0)) := by rw [hw0]; exact blk_alloc (box_new w _ _) _
  have hx1 : w0.heap[w.heap.size + 1]? = some (.cells #[.int .i64 0, .slice none 0 0, .slice none 0 0] 170 (0, 0)) := by rw [hw0]; have h := box_new (w.alloc (.cells #[.int .i64 s, .int .i64 t, .slice A n c] 53)) #[.int .i64 0, .slice none 0 0, .slice none 0 0] 170; simpa using h
  have z0 := blk_cell hx0 0 rfl
  have z1 := blk_cell hx0 1 rfl
  have z2 := blk_cell hx0 2 rfl
  have y0 := blk_cell hx1 0 rfl
  have y1 := blk_cell hx1 1 rfl
  have y2 := blk_cell hx1 2 rfl
  have hnil : Rd w0 none 0 (ints []) := own_rd (own_nil w0 0 2)
  have HVC := ValidConfig_any w0 s t A n c rs (hr.below hB (Nat.le_refl _)) hn 0 none 0 0 [] hnil (by omega) none 0 0 [] hnil (by omega)
  have HOC : Hid ((okM s t rs && okCf s t 0 [] []) = okM s t rs) := Lib.hid (by
    cases h : okM s t rs with
    | false => rfl
    | true =>
      have h1 := (okM_all h).2.1
      have h2 : inB 0 0 (t - 1) = true := by rw [inB_true]; omega
      simp [okCf, h2, okS_nil])
  rw [HOC.out] at HVC
  obtain ⟨o1, ho1⟩ : ∃ o, o = okM s t rs := ⟨_, rfl⟩
  rw [← ho1] at HVC
  replace HVC := Lib.hid HVC
  obtain ⟨o2, ho2⟩ : ∃ o, o = inB b 1 20000 := ⟨_, rfl⟩
  have HBB : Hid (inB b 1 20000 = o2) := Lib.hid ho2.symm
  have HE : Hid (bgC s t rs b = if o1 then (if o2 then 0 else 2) else 1) := Lib.hid (by unfold bgC; rw [← ho1, ← ho2])
  have HB := Lib.hid hB
  clear ho1 ho2 hB hx0 hx1 hr hnil HOC
  go_enter Try.func113, Try.ntmps113
  go_upto_region 1 with fail
  rw [← hw0]
  clear hw0
  cases o1 <;> cases o2
  all_goals
    go_wp2_with (first
      | (go_at_call 45; refine (budgetOk_any _ _).mono ?_; rw [HBB.out]; rintro e w' ⟨rfl, rfl⟩)
      | (go_at_call 150; refine HVC.out.mono ?_; rintro e w2 ⟨rfl, hb2⟩))
    go_ret
    exact ⟨by rw [HE.out]; rfl, bqc hb2 HB.out⟩
set_option maxHeartbeats 4000000 in
theorem budgeted_any (w : World) (s t : Int) (A : Option Addr) (n c : Nat) (rs : List Rul) (hr : Rd w A (n * 3) (ints (flatR rs))) (hn : n ≤ 1099511627776) (b : Int) :
    Calls Try.prog 70 #[mchV s t A n c, .int .i64 b] w (RetV w (.int .i64 (bgC s t rs b))) := by
  obtain ⟨w0, hw0⟩ : ∃ w0, w0 = w.alloc (.cells #[.int .i64 s, .int .i64 t, .slice A n c] 53) := ⟨_, rfl⟩
  have hB : Below w.heap.size w w0 := by rw [hw0]; exact bqa (Below.refl _ _)
  have hx0 : w0.heap[w.heap.size]? = some (.cells #[.int .i64 s, .int .i64 t, .slice A n c] 53 (0, 0)) := by rw [hw0]; exact box_new w _ _
  have z0 := blk_cell hx0 0 rfl
  have z1 := blk_cell hx0 1 rfl
  have z2 := blk_cell hx0 2 rfl
  have HC := Lib.hid (runCode_any w0 s t A n c rs (hr.below hB (Nat.le_refl _)) hn b)
  have HB := Lib.hid hB
  clear hB hx0 hr
  go_enter Try.func70, Try.ntmps70
  go_upto_region 1 with fail
  rw [← hw0]
  clear hw0
  go_wp2_with (go_at_call 113; refine HC.out.mono ?_; rintro e w2 ⟨rfl, hb2⟩)
  go_ret
  exact ⟨rfl, bqc hb2 HB.out⟩
/-- What the visitor leaves. -/
def VisP (w : World) (gb gp gf : Nat) (z : Int) (o : Bool) (row : List Int) (e : Ending) (w' : World) : Prop :=
  (z = 0 ∧ e = .returned (.bool false) ∧ Below w.heap.size w w') ∨
  (¬ z = 0 ∧ o = false ∧ e = .returned (.bool true) ∧ Ch (· = gb) w w' ∧ w'.heap[gb]? = some (.cells #[.int .i64 (z - 1)] 2 (0, 0))) ∨
  (¬ z = 0 ∧ o = true ∧ e = .returned (.bool false) ∧ ∃ (A : Option Addr) (n c : Nat), Ch (fun q => q = gb ∨ q = gp ∨ q = gf) w w' ∧ w'.heap[gp]? = some (.cells #[.int .i64 7, .slice A n c, .slice none 0 0] 48 (0, 0)) ∧ w'.heap[gf]? = some (.cells #[.bool true] 4 (0, 0)) ∧ w'.ownsRow w.heap.size 2 1 (.slice A n c) n (ints row))
set_option maxHeartbeats 4000000 in
set_option maxRecDepth 100000 in
theorem faVis_any (w0 w : World) (hb0 : Below w0.heap.size w0 w) (gb gm gp gf : Nat) (hgb : w0.heap.size ≤ gb) (z : Int) (hz : 0 ≤ z ∧ z ≤ 20000) (hb : w.heap[gb]? = some (.cells #[.int .i64 z] 2 (0, 0))) (hp : w.heap[gp]? = some (.cells #[.int .i64 0, .slice none 0 0, .slice none 0 0] 48 (0, 0))) (hf : w.heap[gf]? = some (.cells #[.bool false] 4 (0, 0)))
    (s t : Int) (A : Option Addr) (n c : Nat) (hm : BM w gm s t A n c) (rs : List Rul) (hr : Rd w0 A (n * 3) (ints (flatR rs))) (hok : okM s t rs = true) (lo : Nat) (hlo : gb < lo) (a : Int) (A1 : Option Addr) (n1 c1 : Nat) (xs : List Int) (ho1 : w.ownsRow lo 2 1 (.slice A1 n1 c1) n1 (ints xs)) (hx : dfB a xs s = true) (hn1 : n1 ≤ 1000) (b : Int) (A2 : Option Addr) (n2 c2 : Nat) (ys : List Int) (ho2 : w.ownsRow lo 2 1 (.slice A2 n2 c2) n2 (ints ys)) (hy : dfB b ys s = true) (hn2 : n2 ≤ 1000) :
    Calls Try.prog 72 #[dfV a A1 n1 c1, dfV b A2 n2 c2, .pointer (some ⟨gb, 0, none⟩), .pointer (some ⟨gm, 0, none⟩), .pointer (some ⟨gp, 0, none⟩), .pointer (some ⟨gf, 0, none⟩)] w (VisP w gb gp gf z (avA s rs xs ys) ([a, b] ++ xs ++ ys)) := by
  obtain ⟨wa, hwa⟩ : ∃ wa, wa = w.alloc (.cells #[.int .i64 a, .slice A1 n1 c1] 55) := ⟨_, rfl⟩
  obtain ⟨w3, hw3⟩ : ∃ w3, w3 = wa.alloc (.cells #[.int .i64 b, .slice A2 n2 c2] 55) := ⟨_, rfl⟩
  have sa : wa.heap.size = w.heap.size + 1 := by rw [hwa]; simp
  have s3 : w3.heap.size = w.heap.size + 1 + 1 := by rw [hw3]; simp [sa]
  have x1 : w3.heap[w.heap.size]? = some (.cells #[.int .i64 a, .slice A1 n1 c1] 55 (0, 0)) := by
    rw [hw3]; refine blk_alloc ?_ _
    rw [hwa]; exact box_new w _ _
  have x2 : w3.heap[w.heap.size + 1]? = some (.cells #[.int .i64 b, .slice A2 n2 c2] 55 (0, 0)) := by
    rw [hw3, ← sa]; exact box_new wa _ _
  have hB3 : Below w.heap.size w w3 := by rw [hw3]; refine bqa ?_; rw [hwa]; exact bqa (Below.refl _ _)
  have hb3 := blk_bel hb hB3
  have hgl : gb < w.heap.size := blk_lt hb
  have b0 := blk_cell hb3 0 rfl
  have fb := blk_free hb3 0
  have hW : w3 = (w.alloc (.cells #[.int .i64 a, .slice A1 n1 c1] 55)).alloc (.cells #[.int .i64 b, .slice A2 n2 c2] 55) := by rw [hw3, hwa]
  have HB3 := Lib.hid hB3
  by_cases hz0 : z = 0
  · subst hz0
    clear hwa hw3 sa s3 x1 x2 hB3 hb3 hgl hb0 hgb hb hp hf hm hr hok ho1 hx ho2 hy
    go_enter Try.func72, Try.ntmps72
    go_upto_region 1 with fail
    rw [← hW]
    clear hW
    go_wp2_with fail
    go_ret
    exact .inl ⟨rfl, rfl, HB3.out⟩
  · obtain ⟨w4, hw4⟩ : ∃ w4, w4 = w3.setCell ⟨gb, 0, none⟩ (.int .i64 (z - 1)) := ⟨_, rfl⟩
    have hc4 : Ch (· = gb) w3 w4 := by rw [hw4]; exact ch_set w3 gb 0 _
    have h1d := blk_ch x1 hc4 (by omega)
    have h2d := blk_ch x2 hc4 (by omega)
    have hmd : BM w4 gm s t A n c := blk_ch (BM.bel hm hB3) hc4 (fun e => blk_ne (BM.bel hm hB3) hb3 (by decide) e)
    have hpd := blk_ch (blk_bel hp hB3) hc4 (fun e => blk_ne (blk_bel hp hB3) hb3 (by decide) e)
    have hfd := blk_ch (blk_bel hf hB3) hc4 (fun e => blk_ne (blk_bel hf hB3) hb3 (by decide) e)
    have hbd : w4.heap[gb]? = some (.cells #[.int .i64 (z - 1)] 2 (0, 0)) := by
      rw [hw4]
      have h5 := blk_set hb3 0 (.int .i64 (z - 1))
      simpa using h5
    have hB03 : Below w0.heap.size w0 w3 := bqc hB3 hb0
    have hB04 : Below w0.heap.size w0 w4 := below_ch hB03 hc4 (fun q e => by have e2 : q = gb := e; omega) hB03.size
    have hr4 := hr.below hB04 (Nat.le_refl _)
    have ho14 := own_ch (ownN_below ho1 hB3 (Nat.le_refl _)) hc4 (fun q hq e => by have h5 := ((ownN_below ho1 hB3 (Nat.le_refl _)).lt q hq).1; have e2 : q = gb := e; omega)
    have ho24 := own_ch (ownN_below ho2 hB3 (Nat.le_refl _)) hc4 (fun q hq e => by have h5 := ((ownN_below ho2 hB3 (Nat.le_refl _)).lt q hq).1; have e2 : q = gb := e; omega)
    have s4 : w4.heap.size = w.heap.size + 1 + 1 := by rw [hw4]; simp [s3]
    have hC4 : Ch (· = gb) w w4 := (ch_below hB3).trans hc4
    obtain ⟨w5, hw5⟩ : ∃ w5, w5 = w4.alloc (.cells #[.int .i64 s, .int .i64 t, .slice A n c, .int .i64 a, .slice A1 n1 c1, .int .i64 b, .slice A2 n2 c2] 100) := ⟨_, rfl⟩
    have hb45 : Below w4.heap.size w4 w5 := by rw [hw5]; exact below_new _ _
    have hx5 : w5.heap[w4.heap.size]? = some (.cells #[.int .i64 s, .int .i64 t, .slice A n c, .int .i64 a, .slice A1 n1 c1, .int .i64 b, .slice A2 n2 c2] 100 (0, 0)) := by rw [hw5]; exact box_new w4 _ _
    rw [s4] at hx5
    have HX5 := Lib.hid hx5
    have HR5 := Lib.hid (hr4.below hb45 (Nat.le_refl _)); have HR15 := Lib.hid ((own_rd ho14).below hb45 (Nat.le_refl _)); have HR25 := Lib.hid ((own_rd ho24).below hb45 (Nat.le_refl _))
    have HA := avoids_any w5 s t A n c rs HR5.out hok a A1 n1 c1 xs HR15.out hx b A2 n2 c2 ys HR25.out hy
    obtain ⟨o, ho⟩ : ∃ o, o = avA s rs xs ys := ⟨_, rfl⟩
    rw [← ho] at HA ⊢
    replace HA := Lib.hid HA
    have HC5 : Hid (Ch (· = gb) w w5) := Lib.hid (hC4.trans (ch_below hb45))
    have HBD := Lib.hid (blk_bel hbd hb45); have HPD := Lib.hid (blk_bel hpd hb45); have HFD := Lib.hid (blk_bel hfd hb45)
    have m0 := blk_cell hmd 0 rfl
    have m1 := blk_cell hmd 1 rfl
    have m2 := blk_cell hmd 2 rfl
    have l0 := blk_cell h1d 0 rfl
    have l1 := blk_cell h1d 1 rfl
    have r0 := blk_cell h2d 0 rfl
    have r1 := blk_cell h2d 1 rfl
    have q0 := blk_cell hx5 0 rfl
    have q1 := blk_cell hx5 1 rfl
    have q2 := blk_cell hx5 2 rfl
    have q3 := blk_cell hx5 3 rfl
    have q4 := blk_cell hx5 4 rfl
    have q5 := blk_cell hx5 5 rfl
    have q6 := blk_cell hx5 6 rfl
    have hwz : IntKind.i64.wrap (z - 1) = z - 1 := IntWalk.i64_in _ (by omega)
    have hzz : (z == 0) = false := by rw [beq_eq_false_iff_ne]; exact hz0
    have HZ0 := Lib.hid hz0
    have HLT : Hid (w.heap.size ≤ w5.heap.size) := Lib.hid HC5.out.size
    clear hwa hw3 sa s3 x1 x2 hB3 hb3 hgl hb0 hgb hb hp hf hm hr hok ho1 hx ho2 hy hc4 h1d h2d hmd hpd hfd hbd hB03 hB04 hr4 ho14 ho24 hC4 hb45 hx5 ho hz hlo hz0
    go_enter Try.func72, Try.ntmps72
    go_upto_region 1 with fail
    rw [← hW]
    clear hW
    go_upto_region 4 with fail
    rw [← hw4]
    clear hw4 b0 fb
    go_upto_region 5 with fail
    rw [← hw5]
    try rw [s4]
    clear hw5 m0 m1 m2 l0 l1 r0 r1
    cases o with
    | false =>
      as_aux_lemma =>
      have g0 := blk_cell HFD.out 0 rfl
      go_wp2_with (go_at_call 57; refine HA.out.mono ?_; rintro e w6 ⟨rfl, hb6⟩
                   have HB6 := Lib.hid hb6
                   have g0 := blk_cell (blk_bel HFD.out hb6) 0 rfl
                   clear hb6 q0 q1 q2 q3 q4 q5 q6)
      go_ret
      exact .inr (.inl ⟨HZ0.out, rfl, rfl, HC5.out.trans (ch_below HB6.out), blk_bel HBD.out HB6.out⟩)
    | true =>
      as_aux_lemma =>
      go_upto_region 6 with (go_at_call 57; refine HA.out.mono ?_; rintro e w6 ⟨rfl, hb6⟩
                             have HB6 := Lib.hid hb6
                             clear hb6)
      have hx6 := blk_bel HX5.out HB6.out
      clear q0 q1 q2 q3 q4 q5 q6
      have q0 := blk_cell hx6 0 rfl
      have q1 := blk_cell hx6 1 rfl
      have q2 := blk_cell hx6 2 rfl
      have q3 := blk_cell hx6 3 rfl
      have q4 := blk_cell hx6 4 rfl
      have q5 := blk_cell hx6 5 rfl
      have q6 := blk_cell hx6 6 rfl
      clear hx6
      have HP := Lib.hid (auProof_any w6 s t A n c a A1 n1 c1 xs (HR15.out.below HB6.out (Nat.le_refl _)) hn1 b A2 n2 c2 ys (HR25.out.below HB6.out (Nat.le_refl _)) hn2)
      have HLT6 : Hid (w.heap.size ≤ w6.heap.size) := Lib.hid (Nat.le_trans HLT.out HB6.out.size)
      go_wp2_with (go_at_call 58; refine HP.out.mono ?_; rintro e w7 ⟨A7, n7, c7, rfl, ho7, hb7⟩
                   have HO7 := Lib.hid ho7; have HB7 := Lib.hid hb7
                   have hpb := blk_bel (blk_bel HPD.out HB6.out) hb7
                   have hfb := blk_bel (blk_bel HFD.out HB6.out) hb7
                   have HPB := Lib.hid hpb; have HFB := Lib.hid hfb
                   have u0 := blk_cell hpb 0 rfl
                   have u1 := blk_cell hpb 1 rfl
                   have u2 := blk_cell hpb 2 rfl
                   have f0 := blk_free hpb 0
                   have f1 := blk_free hpb 1
                   have f2 := blk_free hpb 2
                   have g0 := blk_cell hfb 0 rfl
                   have g1 := blk_free hfb 0
                   have hpf : gp ≠ gf := blk_ne hpb hfb (by decide)
                   have hpf' : gf ≠ gp := fun e => hpf e.symm
                   clear ho7 hb7 hpb hfb q0 q1 q2 q3 q4 q5 q6)
      go_ret
      have hlp : gp < w6.heap.size := blk_lt (blk_bel HPD.out HB6.out)
      have hlf : gf < w6.heap.size := blk_lt (blk_bel HFD.out HB6.out)
      have c1 := ch_set3 w7 gp (.int .i64 7) (.slice A7 n7 c7) (.slice none 0 0)
      have hp8 := blk_set (blk_set (blk_set HPB.out 0 (.int .i64 7)) 1 (.slice A7 n7 c7)) 2 (.slice none 0 0)
      obtain ⟨w8, hw8⟩ : ∃ w8, w8 = ((w7.setCell ⟨gp, 0, none⟩ (.int .i64 7)).setCell ⟨gp, 1, none⟩ (.slice A7 n7 c7)).setCell ⟨gp, 2, none⟩ (.slice none 0 0) := ⟨_, rfl⟩
      rw [← hw8] at c1 hp8 ⊢
      have c2 := ch_set w8 gf 0 (.bool true)
      have hf8 := blk_set (blk_ch HFB.out c1 hpf') 0 (.bool true)
      refine .inr (.inr ⟨HZ0.out, rfl, rfl, A7, n7, c7, ?_, ?_, ?_, ?_⟩)
      · exact ((((HC5.out.trans (ch_below HB6.out)).trans (ch_below HB7.out)).mono (fun q e => .inl e)).trans (c1.mono (fun q e => .inr (.inl e)))).trans (c2.mono (fun q e => .inr (.inr e)))
      · refine blk_ch ?_ c2 hpf
        simpa using hp8
      · simpa using hf8
      · exact ownN_base (own_ch (own_ch HO7.out c1 (fun q hq e => by have h5 := (HO7.out.lt q hq).1; have e2 : q = gp := e; omega)) c2 (fun q hq e => by have h5 := (HO7.out.lt q hq).1; have e2 : q = gf := e; omega)) HLT6.out
end Go.Proofs.Ytcpkhhammafchaa
