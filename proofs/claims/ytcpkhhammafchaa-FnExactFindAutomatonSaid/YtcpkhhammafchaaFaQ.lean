/- FindAutomaton (reference). -/
import Derived.Test.YtcpkhhammafchaaFaS
namespace Go.Proofs.Ytcpkhhammafchaa
open Go.RowKit
set_option linter.unusedVariables false
set_option linter.unusedSimpArgs false
attribute [local go_sem ↓] Go.wp_at_zero Go.wp_at_succ
set_option maxHeartbeats 400000 in
theorem l05Budget_any (w : World) (x : Int) : Calls Try.prog 68 #[.int .i64 x] w fun e w' => e = .returned (.bool (inB x 1 20000)) ∧ w = w' := by
  go_enter Try.func68, Try.ntmps68
  go_wp2_with (go_at_call 110; refine (l00In_any _ _ _ _).mono ?_; rintro e w' ⟨rfl, rfl⟩)
  go_ret
  exact ⟨rfl, rfl⟩
set_option maxHeartbeats 400000 in
theorem budgetOk_any (w : World) (x : Int) : Calls Try.prog 45 #[.int .i64 x] w fun e w' => e = .returned (.bool (inB x 1 20000)) ∧ w = w' := by
  go_enter Try.func45, Try.ntmps45
  go_wp2_with (go_at_call 96; refine (within_any _ _ _ _).mono ?_; rintro e w' ⟨rfl, rfl⟩)
  go_ret
  exact ⟨rfl, rfl⟩
theorem toI {z : Int} (h : 0 ≤ z) : ∃ k : Nat, z = (k : Int) := ⟨z.toNat, by omega⟩
set_option maxHeartbeats 4000000 in
set_option maxRecDepth 100000 in
theorem specFindAutomaton_any (w : World) (s t : Int) (A : Option Addr) (n c : Nat) (rs : List Rul) (hr : Rd w A (n * 3) (ints (flatR rs))) (hn : n ≤ 1099511627776) (b : Int) :
    Calls Try.prog 28 #[mchV s t A n c, .int .i64 b] w (PfP w (fauP s t rs b)) := by
  obtain ⟨wa, hwa⟩ : ∃ wa, wa = w.alloc (.cells #[.int .i64 s, .int .i64 t, .slice A n c] 53) := ⟨_, rfl⟩
  obtain ⟨w0, hw0⟩ : ∃ w0, w0 = wa.alloc (.cells #[.int .i64 0, .slice none 0 0, .slice none 0 0] 48) := ⟨_, rfl⟩
  have sa : wa.heap.size = w.heap.size + 1 := by rw [hwa]; simp
  have xm : BM w0 w.heap.size s t A n c := by
    rw [hw0]; refine blk_alloc ?_ _
    rw [hwa]; exact box_new w _ _
  have xz : w0.heap[w.heap.size + 1]? = some (.cells #[.int .i64 0, .slice none 0 0, .slice none 0 0] 48 (0, 0)) := by
    rw [hw0, ← sa]; exact box_new wa _ _
  have hB : Below w.heap.size w w0 := by rw [hw0]; refine bqa ?_; rw [hwa]; exact bqa (Below.refl _ _)
  have HM := Lib.hid xm; have HZ := Lib.hid xz; have HB := Lib.hid hB
  have HR := Lib.hid (hr.below hB (Nat.le_refl _))
  have hW : w0 = (w.alloc (.cells #[.int .i64 s, .int .i64 t, .slice A n c] 53)).alloc (.cells #[.int .i64 0, .slice none 0 0, .slice none 0 0] 48) := by rw [hw0, hwa]
  have HLI := l05Is_any w0 w.heap.size s t A n c xm rs HR.out hn
  obtain ⟨o1, ho1⟩ : ∃ o, o = okM s t rs := ⟨_, rfl⟩
  rw [← ho1] at HLI
  replace HLI := Lib.hid HLI
  have HV := Lib.hid ho1
  obtain ⟨o2, ho2⟩ : ∃ o, o = inB b 1 20000 := ⟨_, rfl⟩
  have HB2 := Lib.hid ho2
  have HBB : Hid (inB b 1 20000 = o2) := Lib.hid ho2.symm
  clear hwa hw0 sa xm xz hB hr ho1 ho2
  go_enter Try.func28, Try.ntmps28
  go_upto_region 1 with fail
  rw [← hW]
  clear hW
  cases o1 with
  | false =>
    as_aux_lemma =>
    have HO : Hid (fauP s t rs b = (0, [], [], 1)) := Lib.hid (by unfold fauP; rw [← HV.out]; rfl)
    go_wp2_with (go_at_call 67
                 refine HLI.out.mono ?_
                 rintro e w2 ⟨rfl, hb2⟩
                 have HB2 := Lib.hid hb2
                 have hzb := blk_bel HZ.out hb2
                 have z0 := blk_cell hzb 0 rfl
                 have z1 := blk_cell hzb 1 rfl
                 have z2 := blk_cell hzb 2 rfl
                 have f0 := blk_free hzb 0
                 have f1 := blk_free hzb 1
                 have f2 := blk_free hzb 2
                 clear hb2 hzb)
    exact bodyPost_ret (v := .tuple #[prfV 0 none 0 0 none 0 0, .int .i64 1]) (by simp [results, Try.results28, go_sem, z0, z1, z2]) rfl (by rw [HO.out]; exact pfp_err (bqc HB2.out HB.out) (by omega))
  | true =>
    as_aux_lemma =>
    have hok : okM s t rs = true := HV.out.symm
    cases o2 with
    | false =>
      as_aux_lemma =>
      have HO : Hid (fauP s t rs b = (0, [], [], 2)) := Lib.hid (by unfold fauP; rw [hok, HBB.out]; rfl)
      clear hok
      go_wp2_with (first
        | (go_at_call 68; refine (l05Budget_any _ _).mono ?_; rw [HBB.out]; rintro e w' ⟨rfl, rfl⟩)
        | (go_at_call 67
           refine HLI.out.mono ?_
           rintro e w2 ⟨rfl, hb2⟩
           have HB2 := Lib.hid hb2
           have hzb := blk_bel HZ.out hb2
           have z0 := blk_cell hzb 0 rfl
           have z1 := blk_cell hzb 1 rfl
           have z2 := blk_cell hzb 2 rfl
           have f0 := blk_free hzb 0
           have f1 := blk_free hzb 1
           have f2 := blk_free hzb 2
           clear hb2 hzb))
      exact bodyPost_ret (v := .tuple #[prfV 0 none 0 0 none 0 0, .int .i64 2]) (by simp [results, Try.results28, go_sem, z0, z1, z2]) rfl (by rw [HO.out]; exact pfp_err (bqc HB2.out HB.out) (by omega))
    | true =>
      as_aux_lemma =>
      have HO1 : Hid (fauP s t rs b = faP s.toNat rs b.toNat) := Lib.hid (by unfold fauP; rw [hok, HBB.out]; rfl)
      have hbb : 1 ≤ b ∧ b ≤ 20000 := inB_true.1 HBB.out
      obtain ⟨hss, htt, _⟩ := okM_all hok
      obtain ⟨B, rfl⟩ := toI (z := b) (by omega)
      obtain ⟨sn, rfl⟩ := toI (z := s) (by omega)
      have HFF := Lib.hid (fun (w2 : World) (hb2 : Below w0.heap.size w0 w2) => l28Find_any w2 w.heap.size sn t A n c (HM.out.bel hb2) rs (HR.out.below hb2 (Nat.le_refl _)) hok B (by omega))
      have HO : Hid (fauP (sn : Int) t rs (B : Int) = faP sn rs B) := Lib.hid HO1.out
      clear hok hbb hss htt
      go_upto_region 5 with (first
        | (go_at_call 68; refine (l05Budget_any _ _).mono ?_; rw [HBB.out]; rintro e w' ⟨rfl, rfl⟩)
        | (go_at_call 67
           refine HLI.out.mono ?_
           rintro e w2 ⟨rfl, hb2⟩
           have HB2 := Lib.hid hb2
           clear hb2))
      have HF := Lib.hid (HFF.out w2 HB2.out)
      have HLZ : Hid (w.heap.size + 1 < w2.heap.size) := Lib.hid (Nat.lt_of_lt_of_le (blk_lt HZ.out) HB2.out.size)
      go_wp2_with (go_at_call 69
                   refine HF.out.mono ?_
                   rintro e w3 ⟨A3, n3, c3, B3, m3, d3, F3, rfl, ho3, hx3, hf3, hd3, hb3⟩
                   have HO3 := Lib.hid ho3; have HX3 := Lib.hid hx3; have HF3 := Lib.hid hf3; have HD3 := Lib.hid hd3
                   have HB3 : Hid (Below w0.heap.size w0 w3) := Lib.hid (bqc hb3 HB2.out)
                   have HB23 := Lib.hid hb3
                   have hzb := blk_bel HZ.out HB3.out
                   have z0 := blk_cell hzb 0 rfl
                   have z1 := blk_cell hzb 1 rfl
                   have z2 := blk_cell hzb 2 rfl
                   have f0 := blk_free hzb 0
                   have f1 := blk_free hzb 1
                   have f2 := blk_free hzb 2
                   clear ho3 hx3 hf3 hd3 hb3 hzb)
      have hc := fun (v0 v1 v2 : Value) => ch_set3 w3 (w.heap.size + 1) v0 v1 v2
      exact bodyPost_ret (v := .tuple #[prfV (faP sn rs B).1 A3 n3 c3 B3 m3 d3, .int .i64 (faP sn rs B).2.2.2]) (by simp [results, Try.results28, go_sem, z0, z1, z2]) rfl (by
        rw [HO.out]
        refine ⟨A3, n3, c3, B3, m3, d3, F3, rfl, ownN_base (own_ch HO3.out (hc _ _ _) (fun q hq e => ?_)) (bqc HB2.out HB.out).size, HX3.out.ch (hc _ _ _) (fun q hq e => ?_), fun q hq => ?_, HD3.out, below_ch (bqc HB3.out HB.out) (hc _ _ _) (fun k hk => by have e : k = w.heap.size + 1 := hk; omega) (bqc HB3.out HB.out).size⟩
        · have h1 := (HO3.out.lt q hq).1
          have h2 := HLZ.out
          have e2 : q = w.heap.size + 1 := e
          omega
        · have h1 := (HF3.out q hq).1
          have h2 := HLZ.out
          have e2 : q = w.heap.size + 1 := e
          omega
        · have h1 := HF3.out q hq
          have h2 := (bqc HB2.out HB.out).size
          have h3 := (hc (.int .i64 (faP sn rs B).1) (.slice A3 n3 c3) (.slice B3 m3 d3)).size
          exact ⟨Nat.le_trans h2 h1.1, Nat.lt_of_lt_of_le h1.2 h3⟩)
end Go.Proofs.Ytcpkhhammafchaa
