/- Texts in one file: PrfJ, PrfK, PrfL. -/
import Derived.Test.YtcpkhhammafchaaGF
import Derived.Test.YtcpkhhammafchaaGE
/- Proofs by contexts: valid proofs, rising parts (program). -/
namespace Go.Proofs.Ytcpkhhammafchaa
open Go.RowKit
set_option linter.unusedVariables false
set_option linter.unusedSimpArgs false
abbrev prfV (k : Int) (A1 : Option Addr) (n1 c1 : Nat) (A2 : Option Addr) (n2 c2 : Nat) : Value := .agg #[.int .i64 k, .slice A1 n1 c1, .slice A2 n2 c2]
abbrev csV (m : Int) (A1 : Option Addr) (n1 c1 : Nat) (A2 : Option Addr) (n2 c2 : Nat) (A3 : Option Addr) (n3 c3 : Nat) : Value := .agg #[.int .i64 m, .slice A1 n1 c1, .slice A2 n2 c2, .slice A3 n3 c3]
set_option maxHeartbeats 400000 in
theorem sizeL_any (w : World) (A : Option Addr) (n c : Nat) : Calls Try.prog 125 #[.slice A n c] w fun e w' => e = .returned (.int .i64 n) ∧ w = w' := by
  go_enter Try.func125, Try.ntmps125
  go_wp2_with fail
  go_ret
  exact ⟨rfl, rfl⟩
set_option maxHeartbeats 2000000 in
theorem increasing_any (w : World) (m : Int) (A1 : Option Addr) (n1 c1 : Nat) (x1 : List (List Int)) (hr1 : RdL w A1 n1 x1) (hn1 : n1 ≤ 1000000000) (A2 : Option Addr) (n2 c2 : Nat) (x2 : List (List Int)) (hr2 : RdL w A2 n2 x2) (hn2 : n2 ≤ 1000000000) (A3 : Option Addr) (n3 c3 : Nat) (x3 : List (List Int)) (hr3 : RdL w A3 n3 x3) (hn3 : n3 ≤ 1000000000) :
    Calls Try.prog 130 #[csV m A1 n1 c1 A2 n2 c2 A3 n3 c3] w (RetV w (.bool (rises x1 && rises x2 && rises x3))) := by
  obtain ⟨w0, hw0⟩ : ∃ w0, w0 = w.alloc (.cells #[.int .i64 m, .slice A1 n1 c1, .slice A2 n2 c2, .slice A3 n3 c3] 125) := ⟨_, rfl⟩
  have hB : Below w.heap.size w w0 := by rw [hw0]; exact below_new w _
  have hx0 : w0.heap[w.heap.size]? = some (.cells #[.int .i64 m, .slice A1 n1 c1, .slice A2 n2 c2, .slice A3 n3 c3] 125 (0, 0)) := by rw [hw0]; exact box_new w _ _
  have q1 := blk_cell hx0 1 rfl
  have HX0 := Lib.hid hx0
  have HR1 := Lib.hid (hr1.below hB (Nat.le_refl _))
  have HR2 := Lib.hid (hr2.below hB (Nat.le_refl _))
  have HR3 := Lib.hid (hr3.below hB (Nat.le_refl _))
  have HB := Lib.hid hB
  clear hB hx0
  generalize hg1 : rises x1 = b1
  generalize hg2 : rises x2 = b2
  generalize hg3 : rises x3 = b3
  have HG1 := Lib.hid hg1; have HG2 := Lib.hid hg2; have HG3 := Lib.hid hg3
  clear hg1 hg2 hg3
  cases b1 with
  | false =>
    go_enter Try.func130, Try.ntmps130
    go_wp2_with fail
    rw [← hw0]
    clear hw0
    refine (risingLists_any _ A1 n1 c1 x1 HR1.out hn1).mono ?_
    rw [HG1.out]
    rintro e w2 ⟨rfl, hb2⟩
    go_wp2_with fail
    go_ret
    exact ⟨by simp, HB.out.trans (hb2.mono HB.out.size)⟩
  | true =>
    cases b2 with
    | false =>
      go_enter Try.func130, Try.ntmps130
      go_wp2_with fail
      rw [← hw0]
      clear hw0
      refine (risingLists_any _ A1 n1 c1 x1 HR1.out hn1).mono ?_
      rw [HG1.out]
      rintro e w2 ⟨rfl, hb2⟩
      have hx2 := blk_bel HX0.out hb2
      have y2 := blk_cell hx2 2 rfl
      clear q1
      go_wp2_with fail
      refine (risingLists_any _ A2 n2 c2 x2 (HR2.out.below hb2 (Nat.le_refl _)) hn2).mono ?_
      rw [HG2.out]
      rintro e w3 ⟨rfl, hb3⟩
      go_wp2_with fail
      go_ret
      have hz := HB.out.trans (hb2.mono HB.out.size)
      exact ⟨by simp, hz.trans (hb3.mono hz.size)⟩
    | true =>
      go_enter Try.func130, Try.ntmps130
      go_wp2_with fail
      rw [← hw0]
      clear hw0
      refine (risingLists_any _ A1 n1 c1 x1 HR1.out hn1).mono ?_
      rw [HG1.out]
      rintro e w2 ⟨rfl, hb2⟩
      have hx2 := blk_bel HX0.out hb2
      have y2 := blk_cell hx2 2 rfl
      clear q1
      go_wp2_with fail
      refine (risingLists_any _ A2 n2 c2 x2 (HR2.out.below hb2 (Nat.le_refl _)) hn2).mono ?_
      rw [HG2.out]
      rintro e w3 ⟨rfl, hb3⟩
      have hx3 := blk_bel hx2 hb3
      have y3 := blk_cell hx3 3 rfl
      clear y2
      go_wp2_with fail
      refine (risingLists_any _ A3 n3 c3 x3 ((HR3.out.below hb2 (Nat.le_refl _)).below hb3 (Nat.le_refl _)) hn3).mono ?_
      rw [HG3.out]
      rintro e w4 ⟨rfl, hb4⟩
      go_wp2_with fail
      go_ret
      have hz := HB.out.trans (hb2.mono HB.out.size)
      have hz3 := hz.trans (hb3.mono hz.size)
      exact ⟨by simp, hz3.trans (hb4.mono hz3.size)⟩
theorem okP_cases (k : Int) (ns : List Int) (ws : List (List Int)) (n1 n2 : Nat) (h1 : ns.length = n1) (h2 : ws.length = n2) :
    (inB k 1 8 = false ∧ okP k ns ws = false) ∨ (inB k 1 8 = true ∧ 300 < n1 ∧ okP k ns ws = false) ∨ (inB k 1 8 = true ∧ ¬ 300 < n1 ∧ 300 < n2 ∧ okP k ns ws = false) ∨ (inB k 1 8 = true ∧ ¬ 300 < n1 ∧ ¬ 300 < n2 ∧ okP k ns ws = (allIn ns (-1000000000000) 1000000000000 && ws.all wordB)) := by
  subst h1 h2
  unfold okP
  cases inB k 1 8
  · left; simp
  · right
    by_cases h1 : ns.length ≤ 300
    · right
      by_cases h2 : ws.length ≤ 300
      · right; refine ⟨rfl, by omega, by omega, by simp [h1, h2]⟩
      · left; refine ⟨rfl, by omega, by omega, by simp [h2]⟩
    · left; refine ⟨rfl, by omega, by simp [h1]⟩
set_option maxHeartbeats 2000000 in
theorem ValidProof_any (w : World) (k : Int) (A1 : Option Addr) (n1 c1 : Nat) (ns : List Int) (hr1 : Rd w A1 n1 (ints ns)) (hn1 : n1 ≤ 1000000000) (A2 : Option Addr) (n2 c2 : Nat) (ws : List (List Int)) (hr2 : RdL w A2 n2 ws) (hn2 : n2 ≤ 1000000000) :
    Calls Try.prog 80 #[prfV k A1 n1 c1 A2 n2 c2] w (RetV w (.bool (okP k ns ws))) := by
  obtain ⟨w0, hw0⟩ : ∃ w0, w0 = w.alloc (.cells #[.int .i64 k, .slice A1 n1 c1, .slice A2 n2 c2] 48) := ⟨_, rfl⟩
  have hB : Below w.heap.size w w0 := by rw [hw0]; exact below_new w _
  have hx0 : w0.heap[w.heap.size]? = some (.cells #[.int .i64 k, .slice A1 n1 c1, .slice A2 n2 c2] 48 (0, 0)) := by rw [hw0]; exact box_new w _ _
  have q0 := blk_cell hx0 0 rfl
  have q1 := blk_cell hx0 1 rfl
  have q2 := blk_cell hx0 2 rfl
  have HR1 := Lib.hid (hr1.below hB (Nat.le_refl _))
  have HR2 := Lib.hid (hr2.below hB (Nat.le_refl _))
  have HB := Lib.hid hB
  clear hB hx0
  rcases okP_cases k ns ws n1 n2 (by simpa using hr1.1) hr2.len with ⟨h1, hO⟩ | ⟨h1, h2, hO⟩ | ⟨h1, h2, h3, hO⟩ | ⟨h1, h2, h3, hO⟩
  · have HO := Lib.hid hO; have H1 := Lib.hid h1; clear hO h1
    go_enter Try.func80, Try.ntmps80
    go_wp2_with fail
    rw [← hw0]
    clear hw0
    refine (within_any _ _ _ _).mono ?_
    rw [H1.out]
    rintro e w2 ⟨rfl, rfl⟩
    go_wp2_with fail
    go_ret
    exact ⟨by rw [HO.out]; rfl, HB.out⟩
  · have HO := Lib.hid hO; have H1 := Lib.hid h1; clear hO h1
    have d1 : (300 : Int) < (n1 : Int) := by omega
    go_enter Try.func80, Try.ntmps80
    go_wp2_with fail
    rw [← hw0]
    clear hw0
    refine (within_any _ _ _ _).mono ?_
    rw [H1.out]
    rintro e w2 ⟨rfl, rfl⟩
    go_wp2_with fail
    go_ret
    exact ⟨by rw [HO.out]; rfl, HB.out⟩
  · have HO := Lib.hid hO; have H1 := Lib.hid h1; clear hO h1
    have d1 : ¬ (300 : Int) < (n1 : Int) := by omega
    have d2 : (300 : Int) < (n2 : Int) := by omega
    go_enter Try.func80, Try.ntmps80
    go_wp2_with fail
    rw [← hw0]
    clear hw0
    refine (within_any _ _ _ _).mono ?_
    rw [H1.out]
    rintro e w2 ⟨rfl, rfl⟩
    go_wp2_with fail
    go_ret
    exact ⟨by rw [HO.out]; rfl, HB.out⟩
  · have HO := Lib.hid hO; have H1 := Lib.hid h1; clear hO h1
    have d1 : ¬ (300 : Int) < (n1 : Int) := by omega
    have d2 : ¬ (300 : Int) < (n2 : Int) := by omega
    cases ha : allIn ns (-1000000000000) 1000000000000 with
    | false =>
      have HA := Lib.hid ha
      have HO2 : Hid (okP k ns ws = false) := Lib.hid (by rw [HO.out, ha]; rfl)
      clear ha
      go_enter Try.func80, Try.ntmps80
      go_wp2_with fail
      rw [← hw0]
      clear hw0
      refine (within_any _ _ _ _).mono ?_
      rw [H1.out]
      rintro e w2 ⟨rfl, rfl⟩
      go_wp2_with fail
      refine (allWithin_any _ _ _ _ ns HR1.out (by omega) _ _).mono ?_
      rw [HA.out]
      rintro e w2 ⟨rfl, rfl⟩
      go_wp2_with fail
      go_ret
      exact ⟨by rw [HO2.out]; rfl, HB.out⟩
    | true =>
      have HA := Lib.hid ha
      have HO2 : Hid (okP k ns ws = ws.all wordB) := Lib.hid (by rw [HO.out, ha]; rfl)
      clear ha
      go_enter Try.func80, Try.ntmps80
      go_wp2_with fail
      rw [← hw0]
      clear hw0
      refine (within_any _ _ _ _).mono ?_
      rw [H1.out]
      rintro e w2 ⟨rfl, rfl⟩
      go_wp2_with fail
      refine (allWithin_any _ _ _ _ ns HR1.out (by omega) _ _).mono ?_
      rw [HA.out]
      rintro e w2 ⟨rfl, rfl⟩
      go_wp2_with fail
      refine (areWords_any _ _ _ _ ws HR2.out hn2).mono ?_
      rw [← HO2.out]
      rintro e w3 ⟨rfl, hb3⟩
      go_wp2_with fail
      go_ret
      exact ⟨rfl, HB.out.trans (hb3.mono HB.out.size)⟩
end Go.Proofs.Ytcpkhhammafchaa
/- Proofs by contexts: the parts of one, where there are none (program). -/
namespace Go.Proofs.Ytcpkhhammafchaa
open Go.RowKit
set_option linter.unusedVariables false
set_option linter.unusedSimpArgs false
/-- The parts and whether there are some. -/
def CsPost (w : World) (m : Int) (ls rs cs : List (List Int)) (ok : Bool) (e : Ending) (w' : World) : Prop :=
  ∃ (m' : Int) (A1 : Option Addr) (n1 c1 : Nat) (A2 : Option Addr) (n2 c2 : Nat) (A3 : Option Addr) (n3 c3 : Nat), e = .returned (.tuple #[csV m' A1 n1 c1 A2 n2 c2 A3 n3 c3, .bool ok]) ∧ Below w.heap.size w w' ∧
    (ok = true → m' = m ∧ ∃ F1 F2 F3 : Nat → Prop, OwnP w' F1 A1 n1 c1 ls ∧ OwnP w' F2 A2 n2 c2 rs ∧ OwnP w' F3 A3 n3 c3 cs ∧ (∀ k, F1 k ∨ F2 k ∨ F3 k → w.heap.size ≤ k ∧ k < w'.heap.size) ∧ (∀ k, F1 k → F2 k → False) ∧ (∀ k, F1 k → F3 k → False) ∧ (∀ k, F2 k → F3 k → False))
abbrev csZ : Array Value := #[.int .i64 0, .slice none 0 0, .slice none 0 0, .slice none 0 0]
theorem below_set4 {B : Nat} {w0 w : World} {g : Nat} {a b c d : Value} (h : Below B w0 w) (hg : B ≤ g) (hs : B ≤ w.heap.size) : Below B w0 ((((w.setCell ⟨g, 0, none⟩ a).setCell ⟨g, 1, none⟩ b).setCell ⟨g, 2, none⟩ c).setCell ⟨g, 3, none⟩ d) :=
  below_ch h ((((ch_set w g 0 a).trans (ch_set _ g 1 b)).trans (ch_set _ g 2 c)).trans (ch_set _ g 3 d)) (fun k hk => by subst hk; exact hg) hs
theorem g1_cases (k : Int) (ns : List Int) (n1 : Nat) (h : ns.length = n1) : (¬ k = 8 ∧ g1 k ns = false) ∨ (k = 8 ∧ n1 < 3 ∧ g1 k ns = false) ∨ (k = 8 ∧ ¬ n1 < 3 ∧ g1 k ns = inB (pN ns) 1 4) := by
  subst h
  unfold g1
  by_cases h1 : k = 8
  · right
    by_cases h2 : ns.length < 3
    · left; exact ⟨h1, h2, by rw [decide_eq_false (show ¬ 3 ≤ ns.length by omega)]; simp⟩
    · right; exact ⟨h1, h2, by rw [decide_eq_true (show 3 ≤ ns.length by omega), decide_eq_true h1]; rfl⟩
  · left; exact ⟨h1, by simp [h1]⟩
theorem num_at {ns : List Int} {i : Nat} (h : i < ns.length) : ns[i]? = some (ns.getD i 0) := by rw [List.getD_eq_getElem?_getD, List.getElem?_eq_getElem h]; rfl
set_option maxHeartbeats 4000000 in
theorem setsIn_g1 (w : World) (k : Int) (A1 : Option Addr) (n1 c1 : Nat) (ns : List Int) (hr1 : Rd w A1 n1 (ints ns)) (hn1 : n1 ≤ 1000000000) (A2 : Option Addr) (n2 c2 : Nat) (m : Int) (ls rs cs : List (List Int)) (hg : g1 k ns = false) :
    Calls Try.prog 81 #[prfV k A1 n1 c1 A2 n2 c2] w (CsPost w m ls rs cs false) := by
  obtain ⟨w0, hw0⟩ : ∃ w0, w0 = (w.alloc (.cells #[.int .i64 k, .slice A1 n1 c1, .slice A2 n2 c2] 48)).alloc (.cells csZ 125) := ⟨_, rfl⟩
  have hB : Below w.heap.size w w0 := by rw [hw0]; exact (below_new w _).trans ((below_new _ _).mono (by simp))
  have hx0 : w0.heap[w.heap.size]? = some (.cells #[.int .i64 k, .slice A1 n1 c1, .slice A2 n2 c2] 48 (0, 0)) := by rw [hw0]; exact blk_alloc (box_new w _ _) _
  have hx1 : w0.heap[w.heap.size + 1]? = some (.cells csZ 125 (0, 0)) := by rw [hw0]; have h := box_new (w.alloc (.cells #[.int .i64 k, .slice A1 n1 c1, .slice A2 n2 c2] 48)) csZ 125; simpa using h
  have q0 := blk_cell hx0 0 rfl
  have q1 := blk_cell hx0 1 rfl
  have q2 := blk_cell hx0 2 rfl
  have y0 := blk_cell hx1 0 (v := .int .i64 0) rfl
  have y1 := blk_cell hx1 1 (v := .slice none 0 0) rfl
  have y2 := blk_cell hx1 2 (v := .slice none 0 0) rfl
  have y3 := blk_cell hx1 3 (v := .slice none 0 0) rfl
  have f0 := blk_free hx1 0
  have f1 := blk_free hx1 1
  have f2 := blk_free hx1 2
  have f3 := blk_free hx1 3
  have l1 := blk_lt hx1
  have HB := Lib.hid hB
  have hl : ns.length = n1 := by simpa using hr1.1
  have HR1 := Lib.hid (hr1.below hB (Nat.le_refl _))
  clear hB hx0 hx1
  rcases g1_cases k ns n1 hl with ⟨h1, h2⟩ | ⟨h1, h2, h3⟩ | ⟨h1, h2, h3⟩
  · have hne : (k != 8) = true := by simpa using h1
    clear hg h2 hl
    go_enter Try.func81, Try.ntmps81
    go_wp2_with fail
    rw [← hw0]
    clear hw0
    go_wp2_with fail
    exact bodyPost_ret (v := .tuple #[csV 0 none 0 0 none 0 0 none 0 0, .bool false]) (by simp [results, Try.results81, go_sem, y0, y1, y2, y3]) rfl ⟨0, none, 0, 0, none, 0, 0, none, 0, 0, rfl, by first | exact HB.out | exact below_set4 HB.out (by omega) HB.out.size, by simp⟩
  · subst h1
    have hlt : (n1 : Int) < 3 := by omega
    clear hg h3 hl
    go_enter Try.func81, Try.ntmps81
    go_wp2_with fail
    rw [← hw0]
    clear hw0
    go_wp2_with fail
    exact bodyPost_ret (v := .tuple #[csV 0 none 0 0 none 0 0 none 0 0, .bool false]) (by simp [results, Try.results81, go_sem, y0, y1, y2, y3]) rfl ⟨0, none, 0, 0, none, 0, 0, none, 0, 0, rfl, by first | exact HB.out | exact below_set4 HB.out (by omega) HB.out.size, by simp⟩
  · subst h1
    rw [h3] at hg
    have HG := Lib.hid hg
    have hlt : ¬ (n1 : Int) < 3 := by omega
    obtain ⟨b, off, rfl, hbs, r0⟩ := HR1.out.at_ (ints_get (num_at (ns := ns) (i := 0) (by omega)))
    have hp : ns.getD 0 0 = pN ns := rfl
    rw [hp] at r0
    simp only [Nat.add_zero] at r0
    generalize pN ns = z at *
    have i1 : (0 : Int) < (n1 : Int) := by omega
    clear hg h3 hl h2 hp
    go_enter Try.func81, Try.ntmps81
    go_upto_region 1 with fail
    rw [← hw0]
    clear hw0
    go_wp2_with fail
    refine (contextSizeOk_any _ _).mono ?_
    rw [HG.out]
    rintro e w3 ⟨rfl, rfl⟩
    go_wp2_with fail
    exact bodyPost_ret (v := .tuple #[csV 0 none 0 0 none 0 0 none 0 0, .bool false]) (by simp [results, Try.results81, go_sem, y0, y1, y2, y3]) rfl ⟨0, none, 0, 0, none, 0, 0, none, 0, 0, rfl, by first | exact HB.out | exact below_set4 HB.out (by omega) HB.out.size, by simp⟩
end Go.Proofs.Ytcpkhhammafchaa
/- Proofs by contexts: the parts of one, where its numbers do not fit (program). -/
namespace Go.Proofs.Ytcpkhhammafchaa
open Go.RowKit
set_option linter.unusedVariables false
set_option linter.unusedSimpArgs false
theorem num_bd {ns : List Int} {i : Nat} (h : allIn ns (-1000000000000) 1000000000000 = true) (hi : i < ns.length) : -1000000000000 ≤ ns.getD i 0 ∧ ns.getD i 0 ≤ 1000000000000 := allIn_true.1 h _ (List.mem_of_getElem? (num_at hi))
set_option maxHeartbeats 8000000 in
theorem setsIn_g2 (w : World) (k : Int) (A1 : Option Addr) (n1 c1 : Nat) (ns : List Int) (hr1 : Rd w A1 n1 (ints ns)) (hc1 : n1 ≤ c1) (A2 : Option Addr) (n2 c2 : Nat) (ws : List (List Int)) (hl2 : ws.length = n2) (m : Int) (ls rs cs : List (List Int)) (hok : okP k ns ws = true) (hg1 : g1 k ns = true) (hg2 : g2 ns n2 = false) :
    Calls Try.prog 81 #[prfV k A1 n1 c1 A2 n2 c2] w (CsPost w m ls rs cs false) := by
  obtain ⟨rfl, h3, _, _⟩ := g1_bd hg1
  obtain ⟨_, hn1, hn2, hbd, _⟩ := okP_bd hok
  have hi : inB (pN ns) 1 4 = true := by simp only [g1, Bool.and_eq_true] at hg1; exact hg1.2
  have hl : ns.length = n1 := by simpa using hr1.1
  rw [hl] at h3 hn1
  rw [hl2] at hn2
  obtain ⟨w0, hw0⟩ : ∃ w0, w0 = (w.alloc (.cells #[.int .i64 8, .slice A1 n1 c1, .slice A2 n2 c2] 48)).alloc (.cells csZ 125) := ⟨_, rfl⟩
  have hB : Below w.heap.size w w0 := by rw [hw0]; exact (below_new w _).trans ((below_new _ _).mono (by simp))
  have hx0 : w0.heap[w.heap.size]? = some (.cells #[.int .i64 8, .slice A1 n1 c1, .slice A2 n2 c2] 48 (0, 0)) := by rw [hw0]; exact blk_alloc (box_new w _ _) _
  have hx1 : w0.heap[w.heap.size + 1]? = some (.cells csZ 125 (0, 0)) := by rw [hw0]; have h := box_new (w.alloc (.cells #[.int .i64 8, .slice A1 n1 c1, .slice A2 n2 c2] 48)) csZ 125; simpa using h
  have q0 := blk_cell hx0 0 rfl
  have q1 := blk_cell hx0 1 rfl
  have q2 := blk_cell hx0 2 rfl
  have y0 := blk_cell hx1 0 (v := .int .i64 0) rfl
  have y1 := blk_cell hx1 1 (v := .slice none 0 0) rfl
  have y2 := blk_cell hx1 2 (v := .slice none 0 0) rfl
  have y3 := blk_cell hx1 3 (v := .slice none 0 0) rfl
  have f0 := blk_free hx1 0
  have f1 := blk_free hx1 1
  have f2 := blk_free hx1 2
  have f3 := blk_free hx1 3
  have l1 := blk_lt hx1
  have HB := Lib.hid hB
  have hR1 := hr1.below hB (Nat.le_refl _)
  have HX0 := Lib.hid hx0; have HX1 := Lib.hid hx1
  clear hB hx0 hx1
  have HI := Lib.hid hi
  obtain ⟨b, off, hA, hbs, r0⟩ := hR1.at_ (ints_get (num_at (ns := ns) (i := 0) (by omega)))
  obtain ⟨b', off', hA', _, r1⟩ := hR1.at_ (ints_get (num_at (ns := ns) (i := 1) (by omega)))
  obtain ⟨b'', off'', hA'', _, r2⟩ := hR1.at_ (ints_get (num_at (ns := ns) (i := 2) (by omega)))
  subst hA
  injection hA' with hA'
  injection hA' with e1 e2
  subst e1 e2
  injection hA'' with hA''
  injection hA'' with e1 e2
  subst e1 e2
  have hba := num_bd (i := 1) hbd (by omega)
  have hbb := num_bd (i := 2) hbd (by omega)
  have ep : ns.getD 0 0 = pN ns := rfl
  have ea : ns.getD 1 0 = pA ns := rfl
  have eb : ns.getD 2 0 = pB ns := rfl
  rw [ep] at r0
  rw [ea] at r1 hba
  rw [eb] at r2 hbb
  simp only [Nat.add_zero] at r0
  have hct := fun (w : World) => run_cutF Try.underlying25 Try.szI w (some ⟨b, off, none⟩) n1 c1 3 3 .i64 rfl (by omega)
  have HR3 : Hid (Rd w0 (cutA (some ⟨b, off, none⟩) 3 c1 1) (n1 - 3) (ints (ns.drop 3))) := Lib.hid (by have h := hR1.cut 3 c1 (by omega) hc1; rwa [← List.map_drop] at h)
  have HG2 : Hid ((inB (pA ns) 0 n2 && inB (pB ns) 0 n2 && !(pA ns + pB ns + ((n1 - 3 : Nat) : Int) != (n2 : Int)) && allIn (ns.drop 3) 0 1000000000000) = false) := Lib.hid (by
    rw [← hg2, g2, hl]; congr 2; rw [Bool.eq_iff_iff]; simp)
  have hn1' : (n1 - 3 : Nat) ≤ 300 := by omega
  generalize cutA (some ⟨b, off, none⟩) 3 c1 1 = A3 at *
  generalize n1 - 3 = n3 at *
  generalize c1 - 3 = c3 at *
  generalize pN ns = z at *
  generalize pA ns = a at *
  generalize pB ns = b2 at *
  generalize ns.drop 3 = sts at *
  have hw1 : IntKind.i64.wrap (a + b2) = a + b2 := IntWalk.i64_in _ (by omega)
  have hw2 : IntKind.i64.wrap (a + b2 + (n3 : Int)) = a + b2 + (n3 : Int) := IntWalk.i64_in _ (by omega)
  have i0 : (0 : Int) < (n1 : Int) := by omega
  have i1 : (1 : Int) < (n1 : Int) := by omega
  have i2 : (2 : Int) < (n1 : Int) := by omega
  have j1 : 1 < n1 := by omega
  have j2 : 2 < n1 := by omega
  have i3 : ¬ (n1 : Int) < 3 := by omega
  clear hr1 hR1 hl hok hg1 hg2 hbd hl2 hi ep ea eb hba hbb h3
  go_enter Try.func81, Try.ntmps81
  go_upto_region 1 with fail
  rw [← hw0]
  clear hw0
  go_wp2_with fail
  refine (contextSizeOk_any _ _).mono ?_
  rw [HI.out]
  rintro e w3 ⟨rfl, rfl⟩
  go_wp2_with fail
  go_region
  obtain ⟨w1, hw1'⟩ : ∃ w1, w1 = w0.drew := ⟨_, rfl⟩
  have hx0 : w1.heap[w.heap.size]? = some (.cells #[.int .i64 8, .slice (some ⟨b, off, none⟩) n1 c1, .slice A2 n2 c2] 48 (0, 0)) := by rw [hw1']; exact HX0.out
  have hx1 : w1.heap[w.heap.size + 1]? = some (.cells csZ 125 (0, 0)) := by rw [hw1']; exact HX1.out
  have HR3' : Hid (Rd w1 A3 n3 (ints sts)) := Lib.hid (by rw [hw1']; exact HR3.out)
  have HB' : Hid (Below w.heap.size w w1) := Lib.hid (by rw [hw1']; exact below_drew1 HB.out)
  rw [← hw1']
  clear hw1' q0 q1 q2 y0 y1 y2 y3 f0 f1 f2 f3 l1 HX0 HX1 HR3 HB r0 r1 r2 hct
  have q2 := blk_cell hx0 2 rfl
  have y0 := blk_cell hx1 0 (v := .int .i64 0) rfl
  have y1 := blk_cell hx1 1 (v := .slice none 0 0) rfl
  have y2 := blk_cell hx1 2 (v := .slice none 0 0) rfl
  have y3 := blk_cell hx1 3 (v := .slice none 0 0) rfl
  have f0 := blk_free hx1 0
  have f1 := blk_free hx1 1
  have f2 := blk_free hx1 2
  have f3 := blk_free hx1 3
  have l1 := blk_lt hx1
  clear hx0 hx1
  have hs1 : ∀ n, Calls Try.prog 125 #[.slice A2 n2 c2] (w1.drewN n) (fun e w' => e = .returned (.int .i64 n2) ∧ w' = w1.drewN n) := fun n => (sizeL_any _ _ _ _).mono fun e w' h => ⟨h.1, h.2.symm⟩
  have hs2 : ∀ n, Calls Try.prog 126 #[.slice A3 n3 c3] (w1.drewN n) (fun e w' => e = .returned (.int .i64 n3) ∧ w' = w1.drewN n) := fun n => (sizeI_any _ _ _ _).mono fun e w' h => ⟨h.1, h.2.symm⟩
  have hwa : ∀ n, Calls Try.prog 96 #[.int .i64 a, .int .i64 0, .int .i64 n2] (w1.drewN n) (fun e w' => e = .returned (.bool (inB a 0 n2)) ∧ w' = w1.drewN n) := fun n => (within_any _ _ _ _).mono fun e w' h => ⟨h.1, h.2.symm⟩
  have hwb : ∀ n, Calls Try.prog 96 #[.int .i64 b2, .int .i64 0, .int .i64 n2] (w1.drewN n) (fun e w' => e = .returned (.bool (inB b2 0 n2)) ∧ w' = w1.drewN n) := fun n => (within_any _ _ _ _).mono fun e w' h => ⟨h.1, h.2.symm⟩
  have hal : ∀ n, Calls Try.prog 39 #[.slice A3 n3 c3, .int .i64 0, .int .i64 1000000000000] (w1.drewN n) (fun e w' => e = .returned (.bool (allIn sts 0 1000000000000)) ∧ w' = w1.drewN n) := fun n => (allWithin_any _ _ _ _ sts (by have h := HR3'.out; exact h) (by omega) _ _).mono fun e w' h => ⟨h.1, h.2.symm⟩
  have HS1 := Lib.hid (fun n => Calls.quiet_of_same (hs1 n))
  have HS2 := Lib.hid (fun n => Calls.quiet_of_same (hs2 n))
  have HWA := Lib.hid (fun n => Calls.quiet_of_same (hwa n))
  have HWB := Lib.hid (fun n => Calls.quiet_of_same (hwb n))
  have HAL := Lib.hid (fun n => Calls.quiet_of_same (hal n))
  clear hs1 hs2 hwa hwb hal
  generalize inB a 0 n2 = u1 at *
  generalize inB b2 0 n2 = u2 at *
  generalize hu3 : (a + b2 + (n3 : Int) != (n2 : Int)) = u3 at *
  generalize allIn sts 0 1000000000000 = u4 at *
  cases u1 with
  | false =>
    go_wp2_with fail
    go_quiet (first
      | (go_at_call 125; with_reducible exact HS1.out _)
      | (go_at_call 126; with_reducible exact HS2.out _)
      | (go_at_call 96; with_reducible exact HWA.out _)
      | (go_at_call 96; with_reducible exact HWB.out _)
      | (go_at_call 39; with_reducible exact HAL.out _))
    go_wp2_with fail
    exact bodyPost_ret (v := .tuple #[csV 0 none 0 0 none 0 0 none 0 0, .bool false]) (by simp [results, Try.results81, go_sem, y0, y1, y2, y3]) rfl ⟨0, none, 0, 0, none, 0, 0, none, 0, 0, rfl, by first | exact below_drewN HB'.out | exact below_set4 (below_drewN HB'.out) (by omega) HB'.out.size, by simp⟩
  | true =>
    cases u2 with
    | false =>
      go_wp2_with fail
      go_quiet (first
        | (go_at_call 125; with_reducible exact HS1.out _)
        | (go_at_call 126; with_reducible exact HS2.out _)
        | (go_at_call 96; with_reducible exact HWA.out _)
        | (go_at_call 96; with_reducible exact HWB.out _)
        | (go_at_call 39; with_reducible exact HAL.out _))
      go_wp2_with fail
      exact bodyPost_ret (v := .tuple #[csV 0 none 0 0 none 0 0 none 0 0, .bool false]) (by simp [results, Try.results81, go_sem, y0, y1, y2, y3]) rfl ⟨0, none, 0, 0, none, 0, 0, none, 0, 0, rfl, by first | exact below_drewN HB'.out | exact below_set4 (below_drewN HB'.out) (by omega) HB'.out.size, by simp⟩
    | true =>
      cases u3 with
      | true =>
        go_wp2_with fail
        go_quiet (first
          | (go_at_call 125; with_reducible exact HS1.out _)
          | (go_at_call 126; with_reducible exact HS2.out _)
          | (go_at_call 96; with_reducible exact HWA.out _)
          | (go_at_call 96; with_reducible exact HWB.out _)
          | (go_at_call 39; with_reducible exact HAL.out _))
        go_wp2_with fail
        exact bodyPost_ret (v := .tuple #[csV 0 none 0 0 none 0 0 none 0 0, .bool false]) (by simp [results, Try.results81, go_sem, y0, y1, y2, y3]) rfl ⟨0, none, 0, 0, none, 0, 0, none, 0, 0, rfl, by first | exact below_drewN HB'.out | exact below_set4 (below_drewN HB'.out) (by omega) HB'.out.size, by simp⟩
      | false =>
        cases u4 with
        | true => exfalso; have h := HG2.out; simp at h
        | false =>
          go_wp2_with fail
          go_quiet (first
            | (go_at_call 125; with_reducible exact HS1.out _)
            | (go_at_call 126; with_reducible exact HS2.out _)
            | (go_at_call 96; with_reducible exact HWA.out _)
            | (go_at_call 96; with_reducible exact HWB.out _)
            | (go_at_call 39; with_reducible exact HAL.out _))
          go_wp2_with fail
          exact bodyPost_ret (v := .tuple #[csV 0 none 0 0 none 0 0 none 0 0, .bool false]) (by simp [results, Try.results81, go_sem, y0, y1, y2, y3]) rfl ⟨0, none, 0, 0, none, 0, 0, none, 0, 0, rfl, by first | exact below_drewN HB'.out | exact below_set4 (below_drewN HB'.out) (by omega) HB'.out.size, by simp⟩
end Go.Proofs.Ytcpkhhammafchaa
