/- ContextSizes: the reference's answer. -/
import Derived.Test.YtjgajjcgapifoaaPrfW
namespace Go.Proofs.Ytjgajjcgapifoaa
open Go.RowKit
set_option linter.unusedVariables false
set_option linter.unusedSimpArgs false
theorem results_tmp4 {fn : Func} {t u v x : Tmp} (h : fn.results = #[.tmp t, .tmp u, .tmp v, .tmp x]) (tmps : Array Value) (P : Program) (w : World) :
    (results fn tmps).run P w = .ok (.tuple #[tmps.getD t undef, tmps.getD u undef, tmps.getD v undef, tmps.getD x undef]) w := by
  simp [results, h]
theorem results_tmp5 {fn : Func} {t u v x y : Tmp} (h : fn.results = #[.tmp t, .tmp u, .tmp v, .tmp x, .tmp y]) (tmps : Array Value) (P : Program) (w : World) :
    (results fn tmps).run P w = .ok (.tuple #[tmps.getD t undef, tmps.getD u undef, tmps.getD v undef, tmps.getD x undef, tmps.getD y undef]) w := by
  simp [results, h]
theorem l29In_any (w : World) (g : Nat) (k : Int) (A1 : Option Addr) (n1 c1 : Nat) (A2 : Option Addr) (n2 c2 : Nat) (hp : BP w g k A1 n1 c1 A2 n2 c2) (ns : List Int) (hr1 : Rd w A1 n1 (ints ns)) (hn1 : n1 ≤ 1000000000) (hc1 : n1 ≤ c1) (ws : List (List Int)) (hr2 : RdL w A2 n2 ws) (hok : okP k ns ws = true) :
    Calls Try.prog 70 #[.pointer (some ⟨g, 0, none⟩)] w (InPost w (pN ns) (lefts ns ws) (rights ns ws) (ctxs ns ws) (ns.drop 3) (csOk k ns ws)) := by
  cases hg : g1 k ns with
  | false =>
    rw [cs_g1 hg]
    exact l29In_g1 w g k A1 n1 c1 A2 n2 c2 hp ns hr1 hn1 _ _ _ _ _ hg
  | true =>
    cases hs : s2 ns n2 with
    | false =>
      rw [cs_s2 hg (by rw [hr2.len]; exact hs)]
      exact l29In_s2 w g k A1 n1 c1 A2 n2 c2 hp ns hr1 ws hr2.len _ _ _ _ _ hok hg hs
    | true => exact l29In_go w g k A1 n1 c1 A2 n2 c2 hp ns hr1 hc1 ws hr2 hok hg hs
/-- What ContextSizes answers. -/
def csSz (k : Int) (ns : List Int) (ws : List (List Int)) : Int × Int × Int × Int := if csC k ns ws = 0 then (((lefts ns ws).length : Int), ((rights ns ws).length : Int), ((ctxs ns ws).length : Int), 0) else (0, 0, 0, csC k ns ws)
theorem csSz_bad {k : Int} {ns : List Int} {ws : List (List Int)} (h : okP k ns ws = false) : csSz k ns ws = (0, 0, 0, 1) := by simp [csSz, csC_bad h]
theorem csSz_no {k : Int} {ns : List Int} {ws : List (List Int)} (h : okP k ns ws = true) (h2 : csOk k ns ws = false) : csSz k ns ws = (0, 0, 0, 2) := by simp [csSz, csC_no h h2]
theorem csSz_ok {k : Int} {ns : List Int} {ws : List (List Int)} (h : okP k ns ws = true) (h2 : csOk k ns ws = true) : csSz k ns ws = (((lefts ns ws).length : Int), ((rights ns ws).length : Int), ((ctxs ns ws).length : Int), 0) := by simp [csSz, csC_ok h h2]
abbrev q4V (r : Int × Int × Int × Int) : Value := .tuple #[.int .i64 r.1, .int .i64 r.2.1, .int .i64 r.2.2.1, .int .i64 r.2.2.2]
abbrev prfW (k : Int) (A1 : Option Addr) (n1 c1 : Nat) (A2 : Option Addr) (n2 c2 : Nat) : Value := .agg #[.int .i64 k, .slice A1 n1 c1, .slice A2 n2 c2]
set_option maxHeartbeats 8000000 in
set_option maxRecDepth 100000 in
theorem specContextSizes_any (w : World) (k : Int) (A1 : Option Addr) (n1 c1 : Nat) (ns : List Int) (hr1 : Rd w A1 n1 (ints ns)) (hn1 : n1 ≤ 1000000000) (hc1 : n1 ≤ c1) (A2 : Option Addr) (n2 c2 : Nat) (ws : List (List Int)) (hr2 : RdL w A2 n2 ws) (hn2 : n2 ≤ 1000000000) :
    Calls Try.prog 29 #[prfW k A1 n1 c1 A2 n2 c2] w (RetV w (q4V (csSz k ns ws))) := by
  obtain ⟨w0, hw0⟩ : ∃ w0, w0 = w.alloc (.cells #[.int .i64 k, .slice A1 n1 c1, .slice A2 n2 c2] 55) := ⟨_, rfl⟩
  have hB : Below w.heap.size w w0 := by rw [hw0]; exact below_new w _
  have hp : BP w0 w.heap.size k A1 n1 c1 A2 n2 c2 := by rw [hw0]; exact box_new w _ _
  have HP := Lib.hid hp
  have HR1 := Lib.hid (hr1.below hB (Nat.le_refl _))
  have HR2 := Lib.hid (hr2.below hB (Nat.le_refl _))
  have HB := Lib.hid hB
  clear hB hp
  cases hok : okP k ns ws with
  | false =>
    have HO := Lib.hid (csSz_bad hok)
    have HK := Lib.hid hok
    clear hok
    go_enter Try.func29, Try.ntmps29
    go_upto_region 1 with fail
    rw [← hw0]
    clear hw0
    go_wp2_with fail
    refine (l25Is_any _ _ k A1 n1 c1 A2 n2 c2 HP.out ns HR1.out hn1 ws HR2.out hn2).mono ?_
    rw [HK.out]
    rintro e w2 ⟨rfl, hb2⟩
    go_wp2_with fail
    ((try simp only [Exit.inBlock, Exit.then]); refine bodyPost_ret (results_tmp4 rfl _ _ _) rfl ?_)
    exact ⟨by rw [HO.out]; rfl, HB.out.trans (hb2.mono HB.out.size)⟩
  | true =>
    have HK := Lib.hid hok
    cases hcs : csOk k ns ws with
    | false =>
      have HO := Lib.hid (csSz_no hok hcs)
      have HC := Lib.hid hcs
      clear hok hcs
      go_enter Try.func29, Try.ntmps29
      go_upto_region 1 with fail
      rw [← hw0]
      clear hw0
      go_wp2_with fail
      refine (l25Is_any _ _ k A1 n1 c1 A2 n2 c2 HP.out ns HR1.out hn1 ws HR2.out hn2).mono ?_
      rw [HK.out]
      rintro e w2 ⟨rfl, hb2⟩
      have HB2 := Lib.hid hb2
      clear hb2
      go_wp2_with fail
      refine (l29In_any _ _ k A1 n1 c1 A2 n2 c2 (HP.out.bel HB2.out) ns (HR1.out.below HB2.out (Nat.le_refl _)) hn1 hc1 ws (HR2.out.below HB2.out (Nat.le_refl _)) HK.out).mono ?_
      rw [HC.out]
      rintro e w3 ⟨v, rfl, hb3, _⟩
      go_wp2_with fail
      ((try simp only [Exit.inBlock, Exit.then]); refine bodyPost_ret (results_tmp4 rfl _ _ _) rfl ?_)
      have hz := HB.out.trans (HB2.out.mono HB.out.size)
      exact ⟨by rw [HO.out]; rfl, hz.trans (hb3.mono hz.size)⟩
    | true =>
      have HO := Lib.hid (csSz_ok hok hcs)
      have HC := Lib.hid hcs
      clear hok hcs
      go_enter Try.func29, Try.ntmps29
      go_upto_region 1 with fail
      rw [← hw0]
      clear hw0
      go_wp2_with fail
      refine (l25Is_any _ _ k A1 n1 c1 A2 n2 c2 HP.out ns HR1.out hn1 ws HR2.out hn2).mono ?_
      rw [HK.out]
      rintro e w2 ⟨rfl, hb2⟩
      have HB2 := Lib.hid hb2
      clear hb2
      go_wp2_with fail
      refine (l29In_any _ _ k A1 n1 c1 A2 n2 c2 (HP.out.bel HB2.out) ns (HR1.out.below HB2.out (Nat.le_refl _)) hn1 hc1 ws (HR2.out.below HB2.out (Nat.le_refl _)) HK.out).mono ?_
      rw [HC.out]
      rintro e w3 ⟨v, rfl, hb3, hpost⟩
      obtain ⟨g, A5, n5, c5, u5, A6, n6, c6, u6, A7, n7, c7, u7, A4, n4, c4, rfl, hbs, ho1, ho2, ho3, _⟩ := hpost rfl
      obtain ⟨y0, y1, y2, y3, y4⟩ := hbs.cells
      have HL : Hid ((lefts ns ws).length = n5 ∧ (rights ns ws).length = n6 ∧ (ctxs ns ws).length = n7) := Lib.hid ⟨ho1.ownp.len, ho2.ownp.len, ho3.ownp.len⟩
      have HB3 := Lib.hid hb3
      clear hbs ho1 ho2 ho3 hpost hb3
      go_wp2_with fail
      go_quiet (fail)
      go_wp2_with fail
      ((try simp only [Exit.inBlock, Exit.then]); refine bodyPost_ret (results_tmp4 rfl _ _ _) rfl ?_)
      have hz := HB.out.trans (HB2.out.mono HB.out.size)
      exact ⟨by rw [HO.out, HL.out.1, HL.out.2.1, HL.out.2.2]; rfl, below_drewN (hz.trans (HB3.out.mono hz.size))⟩
end Go.Proofs.Ytjgajjcgapifoaa
