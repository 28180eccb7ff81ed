/- ContextSizes: the program's answer. -/
import Derived.Test.YtjgajjcgapifoaaPrfO
import Derived.Test.YtjgajjcgapifoaaPrfX
namespace Go.Proofs.Ytjgajjcgapifoaa
open Go.RowKit
set_option linter.unusedVariables false
set_option linter.unusedSimpArgs false
theorem csOk_g1 {k : Int} {ns : List Int} {ws : List (List Int)} (h : g1 k ns = false) : csOk k ns ws = false := cs_g1 h
theorem csOk_g2 {k : Int} {ns : List Int} {ws : List (List Int)} (h : g2 ns ws.length = false) : csOk k ns ws = false := by simp [csOk, h]
theorem csOk_in {k : Int} {ns : List Int} {ws : List (List Int)} (h : g1 k ns = true) (h2 : g2 ns ws.length = true) : csOk k ns ws = (g3 ns ws && g4 ns ws) := by simp [csOk, h, h2]
/-- The parts of a valid proof. -/
theorem setsIn_any (w : World) (k : Int) (A1 : Option Addr) (n1 c1 : Nat) (ns : List Int) (hr1 : Rd w A1 n1 (ints ns)) (hn1 : n1 ≤ 1000000000) (hc1 : n1 ≤ c1) (A2 : Option Addr) (n2 c2 : Nat) (ws : List (List Int)) (hr2 : RdL w A2 n2 ws) (hc2 : n2 ≤ c2) (hok : okP k ns ws = true) :
    Calls Try.prog 101 #[prfV k A1 n1 c1 A2 n2 c2] w (CsPost w (pN ns) (lefts ns ws) (rights ns ws) (stated (ns.drop 3) (ctxs ns ws)) (csOk k ns ws)) := by
  cases hg : g1 k ns with
  | false =>
    rw [cs_g1 hg]
    exact setsIn_g1 w k A1 n1 c1 ns hr1 hn1 A2 n2 c2 _ _ _ _ hg
  | true =>
    cases h2 : g2 ns n2 with
    | false =>
      rw [csOk_g2 (by rw [hr2.len]; exact h2)]
      exact setsIn_g2 w k A1 n1 c1 ns hr1 hc1 A2 n2 c2 ws hr2.len _ _ _ _ hok hg h2
    | true =>
      rw [csOk_in hg (by rw [hr2.len]; exact h2)]
      exact setsIn_go w k A1 n1 c1 ns hr1 hc1 A2 n2 c2 ws hr2 hc2 hok hg h2
/-- The parts and a code. -/
def CfPost (w : World) (m : Int) (ls rs cs : List (List Int)) (code : Int) (e : Ending) (w' : World) : Prop :=
  ∃ (m' : Int) (A1 : Option Addr) (n1 c1 : Nat) (A2 : Option Addr) (n2 c2 : Nat) (A3 : Option Addr) (n3 c3 : Nat), e = .returned (.tuple #[csV m' A1 n1 c1 A2 n2 c2 A3 n3 c3, .int .i64 code]) ∧ Below w.heap.size w w' ∧
    (code = 0 → m' = m ∧ ∃ F1 F2 F3 : Nat → Prop, OwnP w' F1 A1 n1 c1 ls ∧ OwnP w' F2 A2 n2 c2 rs ∧ OwnP w' F3 A3 n3 c3 cs ∧ (∀ k, F1 k ∨ F2 k ∨ F3 k → w.heap.size ≤ k ∧ k < w'.heap.size) ∧ (∀ k, F1 k → F2 k → False) ∧ (∀ k, F1 k → F3 k → False) ∧ (∀ k, F2 k → F3 k → False))
set_option maxHeartbeats 8000000 in
set_option maxRecDepth 100000 in
theorem setsOf_any (w : World) (k : Int) (A1 : Option Addr) (n1 c1 : Nat) (ns : List Int) (hr1 : Rd w A1 n1 (ints ns)) (hn1 : n1 ≤ 1000000000) (hc1 : n1 ≤ c1) (A2 : Option Addr) (n2 c2 : Nat) (ws : List (List Int)) (hr2 : RdL w A2 n2 ws) (hn2 : n2 ≤ 1000000000) (hc2 : n2 ≤ c2) :
    Calls Try.prog 71 #[prfV k A1 n1 c1 A2 n2 c2] w (CfPost w (pN ns) (lefts ns ws) (rights ns ws) (stated (ns.drop 3) (ctxs ns ws)) (csC k ns ws)) := by
  obtain ⟨w0, hw0⟩ : ∃ w0, w0 = (w.alloc (.cells #[.int .i64 k, .slice A1 n1 c1, .slice A2 n2 c2] 55)).alloc (.cells csZ 106) := ⟨_, rfl⟩
  have hB : Below w.heap.size w w0 := by rw [hw0]; exact (below_new w _).trans ((below_new _ _).mono (by simp))
  have hx0 : w0.heap[w.heap.size]? = some (.cells #[.int .i64 k, .slice A1 n1 c1, .slice A2 n2 c2] 55 (0, 0)) := by rw [hw0]; exact blk_alloc (box_new w _ _) _
  have hx1 : w0.heap[w.heap.size + 1]? = some (.cells csZ 106 (0, 0)) := by rw [hw0]; have h := box_new (w.alloc (.cells #[.int .i64 k, .slice A1 n1 c1, .slice A2 n2 c2] 55)) csZ 106; simpa using h
  have q0 := blk_cell hx0 0 rfl
  have q1 := blk_cell hx0 1 rfl
  have q2 := blk_cell hx0 2 rfl
  have HX0 := Lib.hid hx0
  have HX1 := Lib.hid hx1
  have HR1 := Lib.hid (hr1.below hB (Nat.le_refl _))
  have HR2 := Lib.hid (hr2.below hB (Nat.le_refl _))
  have HB := Lib.hid hB
  clear hB hx0 hx1
  cases hok : okP k ns ws with
  | false =>
    have HO := Lib.hid (csC_bad hok)
    have HK := Lib.hid hok
    clear hok
    go_enter Try.func71, Try.ntmps71
    go_upto_region 1 with fail
    rw [← hw0]
    clear hw0
    go_wp2_with fail
    refine (ValidProof_any _ k A1 n1 c1 ns HR1.out hn1 A2 n2 c2 ws HR2.out hn2).mono ?_
    rw [HK.out]
    rintro e w2 ⟨rfl, hb2⟩
    have hx1 := blk_bel HX1.out hb2
    have y0 := blk_cell hx1 0 (v := .int .i64 0) rfl
    have y1 := blk_cell hx1 1 (v := .slice none 0 0) rfl
    have y2 := blk_cell hx1 2 (v := .slice none 0 0) rfl
    have y3 := blk_cell hx1 3 (v := .slice none 0 0) rfl
    have f0 := blk_free hx1 0
    have f1 := blk_free hx1 1
    have f2 := blk_free hx1 2
    have f3 := blk_free hx1 3
    have l1 := blk_lt hx1
    have HB2 := Lib.hid (HB.out.trans (hb2.mono HB.out.size))
    clear hx1 hb2 q0 q1 q2
    go_wp2_with fail
    exact bodyPost_ret (v := .tuple #[csV 0 none 0 0 none 0 0 none 0 0, .int .i64 1]) (by simp [results, Try.results71, go_sem, y0, y1, y2, y3]) rfl ⟨0, none, 0, 0, none, 0, 0, none, 0, 0, by rw [HO.out], by first | exact HB2.out | exact below_set4 HB2.out (by omega) HB2.out.size, by rw [HO.out]; simp⟩
  | true =>
    have HK := Lib.hid hok
    cases hcs : csOk k ns ws with
    | false =>
      have HO := Lib.hid (csC_no hok hcs)
      have HC := Lib.hid hcs
      clear hok hcs
      go_enter Try.func71, Try.ntmps71
      go_upto_region 1 with fail
      rw [← hw0]
      clear hw0
      go_wp2_with fail
      refine (ValidProof_any _ k A1 n1 c1 ns HR1.out hn1 A2 n2 c2 ws HR2.out hn2).mono ?_
      rw [HK.out]
      rintro e w2 ⟨rfl, hb2⟩
      have hx0 := blk_bel HX0.out hb2
      clear q0 q1 q2
      have q0 := blk_cell hx0 0 rfl
      have q1 := blk_cell hx0 1 rfl
      have q2 := blk_cell hx0 2 rfl
      have HX1' := Lib.hid (blk_bel HX1.out hb2)
      have HB2 := Lib.hid (HB.out.trans (hb2.mono HB.out.size))
      have HR1' := Lib.hid (HR1.out.below hb2 (Nat.le_refl _))
      have HR2' := Lib.hid (HR2.out.below hb2 (Nat.le_refl _))
      clear hx0 hb2
      go_wp2_with fail
      refine (setsIn_any _ k A1 n1 c1 ns HR1'.out hn1 hc1 A2 n2 c2 ws HR2'.out hc2 HK.out).mono ?_
      rw [HC.out]
      rintro e w3 ⟨m', A5, n5, c5, A6, n6, c6, A7, n7, c7, rfl, hb3, _⟩
      have hx1 := blk_alloc (blk_bel HX1'.out hb3) (.cells #[.int .i64 m', .slice A5 n5 c5, .slice A6 n6 c6, .slice A7 n7 c7] 106)
      have y0 := blk_cell hx1 0 (v := .int .i64 0) rfl
      have y1 := blk_cell hx1 1 (v := .slice none 0 0) rfl
      have y2 := blk_cell hx1 2 (v := .slice none 0 0) rfl
      have y3 := blk_cell hx1 3 (v := .slice none 0 0) rfl
      have f0 := blk_free hx1 0
      have f1 := blk_free hx1 1
      have f2 := blk_free hx1 2
      have f3 := blk_free hx1 3
      have l1 := blk_lt hx1
      have HB3 := Lib.hid (HB2.out.trans (hb3.mono HB2.out.size))
      have HB4 := Lib.hid (HB3.out.trans ((below_new w3 (.cells #[.int .i64 m', .slice A5 n5 c5, .slice A6 n6 c6, .slice A7 n7 c7] 106)).mono HB3.out.size))
      clear hx1 hb3 q0 q1 q2
      go_wp2_with fail
      exact bodyPost_ret (v := .tuple #[csV 0 none 0 0 none 0 0 none 0 0, .int .i64 2]) (by simp [results, Try.results71, go_sem, y0, y1, y2, y3]) rfl ⟨0, none, 0, 0, none, 0, 0, none, 0, 0, by rw [HO.out], by first | exact HB4.out | exact below_set4 HB4.out (by omega) HB4.out.size, by rw [HO.out]; simp⟩
    | true =>
      have HO := Lib.hid (csC_ok hok hcs)
      have HC := Lib.hid hcs
      clear hok hcs
      go_enter Try.func71, Try.ntmps71
      go_upto_region 1 with fail
      rw [← hw0]
      clear hw0
      go_wp2_with fail
      refine (ValidProof_any _ k A1 n1 c1 ns HR1.out hn1 A2 n2 c2 ws HR2.out hn2).mono ?_
      rw [HK.out]
      rintro e w2 ⟨rfl, hb2⟩
      have hx0 := blk_bel HX0.out hb2
      clear q0 q1 q2
      have q0 := blk_cell hx0 0 rfl
      have q1 := blk_cell hx0 1 rfl
      have q2 := blk_cell hx0 2 rfl
      have HX1' := Lib.hid (blk_bel HX1.out hb2)
      have HB2 := Lib.hid (HB.out.trans (hb2.mono HB.out.size))
      have HR1' := Lib.hid (HR1.out.below hb2 (Nat.le_refl _))
      have HR2' := Lib.hid (HR2.out.below hb2 (Nat.le_refl _))
      clear hx0 hb2
      go_wp2_with fail
      refine (setsIn_any _ k A1 n1 c1 ns HR1'.out hn1 hc1 A2 n2 c2 ws HR2'.out hc2 HK.out).mono ?_
      rw [HC.out]
      rintro e w3 ⟨m', A5, n5, c5, A6, n6, c6, A7, n7, c7, rfl, hb3, hpost⟩
      obtain ⟨hm, F1, F2, F3, ho1, ho2, ho3, hF, d12, d13, d23⟩ := hpost rfl
      have hx1 := blk_alloc (blk_bel HX1'.out hb3) (.cells #[.int .i64 m', .slice A5 n5 c5, .slice A6 n6 c6, .slice A7 n7 c7] 106)
      have y0 := blk_cell hx1 0 (v := .int .i64 0) rfl
      have y1 := blk_cell hx1 1 (v := .slice none 0 0) rfl
      have y2 := blk_cell hx1 2 (v := .slice none 0 0) rfl
      have y3 := blk_cell hx1 3 (v := .slice none 0 0) rfl
      have f0 := blk_free hx1 0
      have f1 := blk_free hx1 1
      have f2 := blk_free hx1 2
      have f3 := blk_free hx1 3
      have l1 := blk_lt hx1
      have HB3 := Lib.hid (HB2.out.trans (hb3.mono HB2.out.size))
      have HB4 := Lib.hid (HB3.out.trans ((below_new w3 (.cells #[.int .i64 m', .slice A5 n5 c5, .slice A6 n6 c6, .slice A7 n7 c7] 106)).mono HB3.out.size))
      have HM := Lib.hid hm
      have HO1 := Lib.hid ho1; have HO2 := Lib.hid ho2; have HO3 := Lib.hid ho3; have HF := Lib.hid hF
      have HSZ : Hid (w.heap.size + 2 ≤ w2.heap.size) := Lib.hid (by have := blk_lt HX1'.out; omega)
      clear hx1 hb3 q0 q1 q2 ho1 ho2 ho3 hF hm hpost
      go_wp2_with fail
      have hg : ∀ q, (F1 q ∨ F2 q ∨ F3 q) → ¬ q = w.heap.size + 1 := fun q hq => by have h1 := (HF.out q hq).1; have h2 := HSZ.out; omega
      have hcs4 : Ch (fun q => q = w.heap.size + 1) w3 (((((w3.alloc (.cells #[.int .i64 m', .slice A5 n5 c5, .slice A6 n6 c6, .slice A7 n7 c7] 106)).setCell ⟨w.heap.size + 1, 0, none⟩ (.int .i64 m')).setCell ⟨w.heap.size + 1, 1, none⟩ (.slice A5 n5 c5)).setCell ⟨w.heap.size + 1, 2, none⟩ (.slice A6 n6 c6)).setCell ⟨w.heap.size + 1, 3, none⟩ (.slice A7 n7 c7)) :=
        ((((ch_alloc _ w3 _).trans (ch_set _ _ 0 _)).trans (ch_set _ _ 1 _)).trans (ch_set _ _ 2 _)).trans (ch_set _ _ 3 _)
      exact bodyPost_ret (v := .tuple #[csV m' A5 n5 c5 A6 n6 c6 A7 n7 c7, .int .i64 0]) (by simp [results, Try.results71, go_sem, y0, y1, y2, y3]) rfl ⟨m', A5, n5, c5, A6, n6, c6, A7, n7, c7, by rw [HO.out], below_set4 HB4.out (by omega) HB4.out.size, fun _ => ⟨HM.out, F1, F2, F3, HO1.out.ch hcs4 (fun q h1 h2 => hg q (.inl h1) h2), HO2.out.ch hcs4 (fun q h1 h2 => hg q (.inr (.inl h1)) h2), HO3.out.ch hcs4 (fun q h1 h2 => hg q (.inr (.inr h1)) h2), fun q hq => ⟨by have h1 := (HF.out q hq).1; have h2 := HSZ.out; omega, by have h1 := (HF.out q hq).2; simp; omega⟩, d12, d13, d23⟩⟩
set_option maxHeartbeats 8000000 in
set_option maxRecDepth 100000 in
theorem implContextSizes_any (w : World) (k : Int) (A1 : Option Addr) (n1 c1 : Nat) (ns : List Int) (hr1 : Rd w A1 n1 (ints ns)) (hn1 : n1 ≤ 1000000000) (hc1 : n1 ≤ c1) (A2 : Option Addr) (n2 c2 : Nat) (ws : List (List Int)) (hr2 : RdL w A2 n2 ws) (hn2 : n2 ≤ 1000000000) (hc2 : n2 ≤ c2) :
    Calls Try.prog 31 #[prfV k A1 n1 c1 A2 n2 c2] w (RetV w (q4V (csSz k ns ws))) := by
  obtain ⟨w0, hw0⟩ : ∃ w0, w0 = w.alloc (.cells #[.int .i64 k, .slice A1 n1 c1, .slice A2 n2 c2] 55) := ⟨_, rfl⟩
  have hB : Below w.heap.size w w0 := by rw [hw0]; exact below_new w _
  have hx0 : w0.heap[w.heap.size]? = some (.cells #[.int .i64 k, .slice A1 n1 c1, .slice A2 n2 c2] 55 (0, 0)) := by rw [hw0]; exact box_new w _ _
  have q0 := blk_cell hx0 0 rfl
  have q1 := blk_cell hx0 1 rfl
  have q2 := blk_cell hx0 2 rfl
  have HR1 := Lib.hid (hr1.below hB (Nat.le_refl _))
  have HR2 := Lib.hid (hr2.below hB (Nat.le_refl _))
  have HB := Lib.hid hB
  clear hB hx0
  by_cases hc : csC k ns ws = 0
  · have HC := Lib.hid hc
    have HO : Hid (csSz k ns ws = (((lefts ns ws).length : Int), ((rights ns ws).length : Int), ((stated (ns.drop 3) (ctxs ns ws)).length : Int), 0)) := Lib.hid (by
      have hok : okP k ns ws = true := by cases h : okP k ns ws; rw [csC_bad h] at hc; cases hc; rfl
      have hcs : csOk k ns ws = true := by cases h : csOk k ns ws; rw [csC_no hok h] at hc; cases hc; rfl
      rw [csSz_ok hok hcs, stated_len]
      simp only [csOk, Bool.and_eq_true] at hcs
      obtain ⟨a, b, ha, hb, hab, hl⟩ := g2_bd hcs.1.1.2
      simp [ctxs, ha, hb]; omega)
    clear hc
    go_enter Try.func31, Try.ntmps31
    go_upto_region 1 with fail
    rw [← hw0]
    clear hw0
    go_wp2_with fail
    refine (setsOf_any _ k A1 n1 c1 ns HR1.out hn1 hc1 A2 n2 c2 ws HR2.out hn2 hc2).mono ?_
    rw [HC.out]
    rintro e w2 ⟨m', A5, n5, c5, A6, n6, c6, A7, n7, c7, rfl, hb2, hpost⟩
    obtain ⟨hmm, F1, F2, F3, ho1, ho2, ho3, _⟩ := hpost rfl
    clear hmm
    have HL : Hid ((lefts ns ws).length = n5 ∧ (rights ns ws).length = n6 ∧ (stated (ns.drop 3) (ctxs ns ws)).length = n7) := Lib.hid ⟨ho1.len, ho2.len, ho3.len⟩
    have HB2 := Lib.hid (HB.out.trans (hb2.mono HB.out.size))
    clear hpost ho1 ho2 ho3 hb2 q0 q1 q2
    go_upto_region 2 with fail
    obtain ⟨w3, hw3⟩ : ∃ w3, w3 = w2.alloc (.cells #[.int .i64 m', .slice A5 n5 c5, .slice A6 n6 c6, .slice A7 n7 c7] 106) := ⟨_, rfl⟩
    have hx3 : w3.heap[w2.heap.size]? = some (.cells #[.int .i64 m', .slice A5 n5 c5, .slice A6 n6 c6, .slice A7 n7 c7] 106 (0, 0)) := by rw [hw3]; exact box_new w2 _ _
    have HB3 : Hid (Below w.heap.size w w3) := Lib.hid (by rw [hw3]; exact HB2.out.trans ((below_new w2 _).mono HB2.out.size))
    have y1 := blk_cell hx3 1 rfl
    have y2 := blk_cell hx3 2 rfl
    have y3 := blk_cell hx3 3 rfl
    rw [← hw3]
    clear hw3 hx3
    have hs : ∀ A n c q, Calls Try.prog 72 #[.slice A n c] (w3.drewN q) (fun e w' => e = .returned (.int .i64 n) ∧ w' = w3.drewN q) := fun A n c q => (sizeL_any _ _ _ _).mono fun e w' h => ⟨h.1, h.2.symm⟩
    have HS1 := Lib.hid (fun q => Calls.quiet_of_same (hs A5 n5 c5 q))
    have HS2 := Lib.hid (fun q => Calls.quiet_of_same (hs A6 n6 c6 q))
    have HS3 := Lib.hid (fun q => Calls.quiet_of_same (hs A7 n7 c7 q))
    clear hs
    go_wp2_with fail
    go_quiet (first
      | (go_at_call 72; with_reducible exact HS1.out _)
      | (go_at_call 72; with_reducible exact HS2.out _)
      | (go_at_call 72; with_reducible exact HS3.out _))
    go_wp2_with fail
    ((try simp only [Exit.inBlock, Exit.then]); refine bodyPost_ret (results_tmp4 rfl _ _ _) rfl ?_)
    exact ⟨by rw [HO.out, HL.out.1, HL.out.2.1, HL.out.2.2]; rfl, below_drewN HB3.out⟩
  · have HO : Hid (csSz k ns ws = (0, 0, 0, csC k ns ws)) := Lib.hid (by simp [csSz, hc])
    generalize csSz k ns ws = r at *
    have hcb : (csC k ns ws != 0) = true := by simpa using hc
    generalize hcz : csC k ns ws = z at *
    have HZ := Lib.hid hcz
    clear hcz
    go_enter Try.func31, Try.ntmps31
    go_upto_region 1 with fail
    rw [← hw0]
    clear hw0
    go_wp2_with fail
    refine (setsOf_any _ k A1 n1 c1 ns HR1.out hn1 hc1 A2 n2 c2 ws HR2.out hn2 hc2).mono ?_
    rw [HZ.out]
    rintro e w2 ⟨m', A5, n5, c5, A6, n6, c6, A7, n7, c7, rfl, hb2, _⟩
    have HB2 := Lib.hid (HB.out.trans (hb2.mono HB.out.size))
    clear hb2 q0 q1 q2
    go_wp2_with fail
    ((try simp only [Exit.inBlock, Exit.then]); refine bodyPost_ret (results_tmp4 rfl _ _ _) rfl ?_)
    exact ⟨by rw [HO.out]; rfl, HB2.out.trans ((below_new w2 _).mono HB2.out.size)⟩
end Go.Proofs.Ytjgajjcgapifoaa
