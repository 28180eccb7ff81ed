/- ContextsIn: the reference's answer. -/
import Derived.Test.YtjgajjcgapifoaaPrfX
import Derived.Test.YtjgajjcgapifoaaLawK
namespace Go.Proofs.Ytjgajjcgapifoaa
open Go.RowKit
set_option linter.unusedVariables false
set_option linter.unusedSimpArgs false
theorem OwnP.k {w : World} {F : Nat → Prop} {n c : Nat} {A : Option Addr} {xss : List (List Int)} (h : OwnP w F A n c xss) : OwnK w F A n c xss := by
  obtain ⟨us, h1, h2, ⟨h3, h4, h5⟩, h6⟩ := h
  refine ⟨us, h1, h2, ⟨h3, fun i u xs hu hx => ?_, h5⟩, h6⟩
  obtain ⟨A', n', c', rfl, hn, ho, hb⟩ := h4 i u xs hu hx
  exact ⟨A', n', c', rfl, hn, ownA_of ho, hb⟩
/-- What ContextsIn answers. -/
def ciR (k : Int) (ns : List Int) (ws : List (List Int)) : List (List Int) × List (List Int) × List (List Int) × List Int × Int := if csC k ns ws = 0 then (lefts ns ws, rights ns ws, ctxs ns ws, ns.drop 3, 0) else ([], [], [], [], csC k ns ws)
theorem ciR_bad {k : Int} {ns : List Int} {ws : List (List Int)} (h : okP k ns ws = false) : ciR k ns ws = ([], [], [], [], 1) := by simp [ciR, csC_bad h]
theorem ciR_no {k : Int} {ns : List Int} {ws : List (List Int)} (h : okP k ns ws = true) (h2 : csOk k ns ws = false) : ciR k ns ws = ([], [], [], [], 2) := by simp [ciR, csC_no h h2]
theorem ciR_ok {k : Int} {ns : List Int} {ws : List (List Int)} (h : okP k ns ws = true) (h2 : csOk k ns ws = true) : ciR k ns ws = (lefts ns ws, rights ns ws, ctxs ns ws, ns.drop 3, 0) := by simp [ciR, csC_ok h h2]
def CiP (w : World) (r : List (List Int) × List (List Int) × List (List Int) × List Int × Int) (e : Ending) (w' : World) : Prop :=
  ∃ (A0 : Option Addr) (n0 c0 : Nat) (F0 : Nat → Prop) (A1 : Option Addr) (n1 c1 : Nat) (F1 : Nat → Prop) (A2 : Option Addr) (n2 c2 : Nat) (F2 : Nat → Prop) (A3 : Option Addr) (n3 c3 : Nat), e = .returned (.tuple #[.slice A0 n0 c0, .slice A1 n1 c1, .slice A2 n2 c2, .slice A3 n3 c3, .int .i64 r.2.2.2.2]) ∧
    OwnP w' F0 A0 n0 c0 r.1 ∧ (∀ k, F0 k → w.heap.size ≤ k ∧ k < w'.heap.size) ∧ OwnP w' F1 A1 n1 c1 r.2.1 ∧ (∀ k, F1 k → w.heap.size ≤ k ∧ k < w'.heap.size) ∧ OwnK w' F2 A2 n2 c2 r.2.2.1 ∧ (∀ k, F2 k → w.heap.size ≤ k ∧ k < w'.heap.size) ∧ w'.ownsRow w.heap.size 2 1 (.slice A3 n3 c3) n3 (ints r.2.2.2.1) ∧
    (∀ k, F0 k → F1 k → False) ∧ (∀ k, F0 k → F2 k → False) ∧ (∀ k, F0 k → Fo (.slice A3 n3 c3) k → False) ∧ (∀ k, F1 k → F2 k → False) ∧ (∀ k, F1 k → Fo (.slice A3 n3 c3) k → False) ∧ (∀ k, F2 k → Fo (.slice A3 n3 c3) k → False) ∧ Below w.heap.size w w'
theorem ciP_nil {w w' : World} {z : Int} (hb : Below w.heap.size w w') : CiP w ([], [], [], [], z) (.returned (.tuple #[.slice none 0 0, .slice none 0 0, .slice none 0 0, .slice none 0 0, .int .i64 z])) w' :=
  ⟨none, 0, 0, fun _ => False, none, 0, 0, fun _ => False, none, 0, 0, fun _ => False, none, 0, 0, rfl, OwnP.nil _, by simp, OwnP.nil _, by simp, (OwnP.nil _).k, by simp, own_nil _ _ _, by simp, by simp, by simp, by simp, by simp, by simp, hb⟩
set_option maxHeartbeats 8000000 in
set_option maxRecDepth 100000 in
theorem specContextsIn_any (w : World) (k : Int) (A1 : Option Addr) (n1 c1 : Nat) (ns : List Int) (hr1 : Rd w A1 n1 (ints ns)) (hn1 : n1 ≤ 1000000000) (hc1 : n1 ≤ c1) (A2 : Option Addr) (n2 c2 : Nat) (ws : List (List Int)) (hr2 : RdL w A2 n2 ws) (hn2 : n2 ≤ 1000000000) :
    Calls Try.prog 41 #[prfW k A1 n1 c1 A2 n2 c2] w (CiP w (ciR k ns ws)) := by
  obtain ⟨w0, hw0⟩ : ∃ w0, w0 = w.alloc (.cells #[.int .i64 k, .slice A1 n1 c1, .slice A2 n2 c2] 55) := ⟨_, rfl⟩
  have hB : Below w.heap.size w w0 := by rw [hw0]; exact below_new w _
  have hp : BP w0 w.heap.size k A1 n1 c1 A2 n2 c2 := by rw [hw0]; exact box_new w _ _
  have HP := Lib.hid hp
  have HR1 := Lib.hid (hr1.below hB (Nat.le_refl _))
  have HR2 := Lib.hid (hr2.below hB (Nat.le_refl _))
  have HB := Lib.hid hB
  clear hB hp
  cases hok : okP k ns ws with
  | false =>
    have HO := Lib.hid (ciR_bad hok)
    have HK := Lib.hid hok
    clear hok
    go_enter Try.func41, Try.ntmps41
    go_upto_region 1 with fail
    rw [← hw0]
    clear hw0
    go_wp2_with fail
    refine (l25Is_any _ _ k A1 n1 c1 A2 n2 c2 HP.out ns HR1.out hn1 ws HR2.out hn2).mono ?_
    rw [HK.out]
    rintro e w2 ⟨rfl, hb2⟩
    go_wp2_with fail
    ((try simp only [Exit.inBlock, Exit.then]); refine bodyPost_ret (results_tmp5 rfl _ _ _) rfl ?_)
    rw [HO.out]
    exact ciP_nil (HB.out.trans (hb2.mono HB.out.size))
  | true =>
    have HK := Lib.hid hok
    cases hcs : csOk k ns ws with
    | false =>
      have HO := Lib.hid (ciR_no hok hcs)
      have HC := Lib.hid hcs
      clear hok hcs
      go_enter Try.func41, Try.ntmps41
      go_upto_region 1 with fail
      rw [← hw0]
      clear hw0
      go_wp2_with fail
      refine (l25Is_any _ _ k A1 n1 c1 A2 n2 c2 HP.out ns HR1.out hn1 ws HR2.out hn2).mono ?_
      rw [HK.out]
      rintro e w2 ⟨rfl, hb2⟩
      have HB2 := Lib.hid hb2
      clear hb2
      go_wp2_with fail
      refine (l29In_any _ _ k A1 n1 c1 A2 n2 c2 (HP.out.bel HB2.out) ns (HR1.out.below HB2.out (Nat.le_refl _)) hn1 hc1 ws (HR2.out.below HB2.out (Nat.le_refl _)) HK.out).mono ?_
      rw [HC.out]
      rintro e w3 ⟨v, rfl, hb3, _⟩
      go_wp2_with fail
      ((try simp only [Exit.inBlock, Exit.then]); refine bodyPost_ret (results_tmp5 rfl _ _ _) rfl ?_)
      have hz := HB.out.trans (HB2.out.mono HB.out.size)
      rw [HO.out]
      exact ciP_nil (hz.trans (hb3.mono hz.size))
    | true =>
      have HO := Lib.hid (ciR_ok hok hcs)
      have HC := Lib.hid hcs
      clear hok hcs
      go_enter Try.func41, Try.ntmps41
      go_upto_region 1 with fail
      rw [← hw0]
      clear hw0
      go_wp2_with fail
      refine (l25Is_any _ _ k A1 n1 c1 A2 n2 c2 HP.out ns HR1.out hn1 ws HR2.out hn2).mono ?_
      rw [HK.out]
      rintro e w2 ⟨rfl, hb2⟩
      have HB2 := Lib.hid hb2
      clear hb2
      go_wp2_with fail
      refine (l29In_any _ _ k A1 n1 c1 A2 n2 c2 (HP.out.bel HB2.out) ns (HR1.out.below HB2.out (Nat.le_refl _)) hn1 hc1 ws (HR2.out.below HB2.out (Nat.le_refl _)) HK.out).mono ?_
      rw [HC.out]
      rintro e w3 ⟨v, rfl, hb3, hpost⟩
      obtain ⟨g, A5, n5, c5, u5, A6, n6, c6, u6, A7, n7, c7, u7, A4, n4, c4, rfl, hbs, ho1, ho2, ho3, ho4, hlo, d12, d13, d23, d14, d24, d34⟩ := hpost rfl
      obtain ⟨y0, y1, y2, y3, y4⟩ := hbs.cells
      have HB3 := Lib.hid hb3
      have HO1 := Lib.hid ho1; have HO2 := Lib.hid ho2; have HO3 := Lib.hid ho3; have HO4 := Lib.hid ho4
      have HLO := Lib.hid hlo; have HD := Lib.hid (And.intro d12 (And.intro d13 (And.intro d23 (And.intro d14 (And.intro d24 d34)))))
      clear hbs ho1 ho2 ho3 ho4 hpost hb3 hlo d12 d13 d23 d14 d24 d34
      go_wp2_with fail
      go_quiet (fail)
      go_wp2_with fail
      ((try simp only [Exit.inBlock, Exit.then]); refine bodyPost_ret (results_tmp5 rfl _ _ _) rfl ?_)
      have hz := HB.out.trans (HB2.out.mono HB.out.size)
      have hd : ∀ q, Below w3.heap.size w3 (w3.drewN q) := fun q => below_drewN (Below.refl _ _)
      obtain ⟨d12, d13, d23, d14, d24, d34⟩ := HD.out
      rw [HO.out]
      have p1 := (HO1.out.below (hd nq)).ownp
      have p2 := (HO2.out.below (hd nq)).ownp
      have p3 := (HO3.out.below (hd nq)).ownp
      exact ⟨A5, n5, c5, _, A6, n6, c6, _, A7, n7, c7, _, A4, n4, c4, rfl, p1, fun q hq => ⟨Nat.le_trans hz.size (HLO.out q (.inl hq)), p1.lt q hq⟩, p2, fun q hq => ⟨Nat.le_trans hz.size (HLO.out q (.inr (.inl hq))), p2.lt q hq⟩, p3.k, fun q hq => ⟨Nat.le_trans hz.size (HLO.out q (.inr (.inr hq))), p3.lt q hq⟩, ownN_base (ownN_below HO4.out (hd nq) (Nat.le_refl _)) hz.size, d12, d13, d14, d23, d24, d34, below_drewN (hz.trans (HB3.out.mono hz.size))⟩
end Go.Proofs.Ytjgajjcgapifoaa
