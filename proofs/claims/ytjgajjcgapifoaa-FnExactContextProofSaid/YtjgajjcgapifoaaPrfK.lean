/- Proofs by contexts: the parts of one, where there are none (program). -/
import Derived.Test.YtjgajjcgapifoaaPrfJ
namespace Go.Proofs.Ytjgajjcgapifoaa
open Go.RowKit
set_option linter.unusedVariables false
set_option linter.unusedSimpArgs false
/-- The parts and whether there are some. -/
def CsPost (w : World) (m : Int) (ls rs cs : List (List Int)) (ok : Bool) (e : Ending) (w' : World) : Prop :=
  ∃ (m' : Int) (A1 : Option Addr) (n1 c1 : Nat) (A2 : Option Addr) (n2 c2 : Nat) (A3 : Option Addr) (n3 c3 : Nat), e = .returned (.tuple #[csV m' A1 n1 c1 A2 n2 c2 A3 n3 c3, .bool ok]) ∧ Below w.heap.size w w' ∧
    (ok = true → m' = m ∧ ∃ F1 F2 F3 : Nat → Prop, OwnP w' F1 A1 n1 c1 ls ∧ OwnP w' F2 A2 n2 c2 rs ∧ OwnP w' F3 A3 n3 c3 cs ∧ (∀ k, F1 k ∨ F2 k ∨ F3 k → w.heap.size ≤ k ∧ k < w'.heap.size) ∧ (∀ k, F1 k → F2 k → False) ∧ (∀ k, F1 k → F3 k → False) ∧ (∀ k, F2 k → F3 k → False))
abbrev csZ : Array Value := #[.int .i64 0, .slice none 0 0, .slice none 0 0, .slice none 0 0]
theorem below_set4 {B : Nat} {w0 w : World} {g : Nat} {a b c d : Value} (h : Below B w0 w) (hg : B ≤ g) (hs : B ≤ w.heap.size) : Below B w0 ((((w.setCell ⟨g, 0, none⟩ a).setCell ⟨g, 1, none⟩ b).setCell ⟨g, 2, none⟩ c).setCell ⟨g, 3, none⟩ d) :=
  below_ch h ((((ch_set w g 0 a).trans (ch_set _ g 1 b)).trans (ch_set _ g 2 c)).trans (ch_set _ g 3 d)) (fun k hk => by subst hk; exact hg) hs
theorem g1_cases (k : Int) (ns : List Int) (n1 : Nat) (h : ns.length = n1) : (¬ k = 8 ∧ g1 k ns = false) ∨ (k = 8 ∧ n1 < 3 ∧ g1 k ns = false) ∨ (k = 8 ∧ ¬ n1 < 3 ∧ g1 k ns = inB (pN ns) 1 4) := by
  subst h
  unfold g1
  by_cases h1 : k = 8
  · right
    by_cases h2 : ns.length < 3
    · left; exact ⟨h1, h2, by rw [decide_eq_false (show ¬ 3 ≤ ns.length by omega)]; simp⟩
    · right; exact ⟨h1, h2, by rw [decide_eq_true (show 3 ≤ ns.length by omega), decide_eq_true h1]; rfl⟩
  · left; exact ⟨h1, by simp [h1]⟩
theorem num_at {ns : List Int} {i : Nat} (h : i < ns.length) : ns[i]? = some (ns.getD i 0) := by rw [List.getD_eq_getElem?_getD, List.getElem?_eq_getElem h]; rfl
set_option maxHeartbeats 4000000 in
theorem setsIn_g1 (w : World) (k : Int) (A1 : Option Addr) (n1 c1 : Nat) (ns : List Int) (hr1 : Rd w A1 n1 (ints ns)) (hn1 : n1 ≤ 1000000000) (A2 : Option Addr) (n2 c2 : Nat) (m : Int) (ls rs cs : List (List Int)) (hg : g1 k ns = false) :
    Calls Try.prog 101 #[prfV k A1 n1 c1 A2 n2 c2] w (CsPost w m ls rs cs false) := by
  obtain ⟨w0, hw0⟩ : ∃ w0, w0 = (w.alloc (.cells #[.int .i64 k, .slice A1 n1 c1, .slice A2 n2 c2] 55)).alloc (.cells csZ 106) := ⟨_, rfl⟩
  have hB : Below w.heap.size w w0 := by rw [hw0]; exact (below_new w _).trans ((below_new _ _).mono (by simp))
  have hx0 : w0.heap[w.heap.size]? = some (.cells #[.int .i64 k, .slice A1 n1 c1, .slice A2 n2 c2] 55 (0, 0)) := by rw [hw0]; exact blk_alloc (box_new w _ _) _
  have hx1 : w0.heap[w.heap.size + 1]? = some (.cells csZ 106 (0, 0)) := by rw [hw0]; have h := box_new (w.alloc (.cells #[.int .i64 k, .slice A1 n1 c1, .slice A2 n2 c2] 55)) csZ 106; simpa using h
  have q0 := blk_cell hx0 0 rfl
  have q1 := blk_cell hx0 1 rfl
  have q2 := blk_cell hx0 2 rfl
  have y0 := blk_cell hx1 0 (v := .int .i64 0) rfl
  have y1 := blk_cell hx1 1 (v := .slice none 0 0) rfl
  have y2 := blk_cell hx1 2 (v := .slice none 0 0) rfl
  have y3 := blk_cell hx1 3 (v := .slice none 0 0) rfl
  have f0 := blk_free hx1 0
  have f1 := blk_free hx1 1
  have f2 := blk_free hx1 2
  have f3 := blk_free hx1 3
  have l1 := blk_lt hx1
  have HB := Lib.hid hB
  have hl : ns.length = n1 := by simpa using hr1.1
  have HR1 := Lib.hid (hr1.below hB (Nat.le_refl _))
  clear hB hx0 hx1
  rcases g1_cases k ns n1 hl with ⟨h1, h2⟩ | ⟨h1, h2, h3⟩ | ⟨h1, h2, h3⟩
  · have hne : (k != 8) = true := by simpa using h1
    clear hg h2 hl
    go_enter Try.func101, Try.ntmps101
    go_wp2_with fail
    rw [← hw0]
    clear hw0
    go_wp2_with fail
    exact bodyPost_ret (v := .tuple #[csV 0 none 0 0 none 0 0 none 0 0, .bool false]) (by simp [results, Try.results101, go_sem, y0, y1, y2, y3]) rfl ⟨0, none, 0, 0, none, 0, 0, none, 0, 0, rfl, by first | exact HB.out | exact below_set4 HB.out (by omega) HB.out.size, by simp⟩
  · subst h1
    have hlt : (n1 : Int) < 3 := by omega
    clear hg h3 hl
    go_enter Try.func101, Try.ntmps101
    go_wp2_with fail
    rw [← hw0]
    clear hw0
    go_wp2_with fail
    exact bodyPost_ret (v := .tuple #[csV 0 none 0 0 none 0 0 none 0 0, .bool false]) (by simp [results, Try.results101, go_sem, y0, y1, y2, y3]) rfl ⟨0, none, 0, 0, none, 0, 0, none, 0, 0, rfl, by first | exact HB.out | exact below_set4 HB.out (by omega) HB.out.size, by simp⟩
  · subst h1
    rw [h3] at hg
    have HG := Lib.hid hg
    have hlt : ¬ (n1 : Int) < 3 := by omega
    obtain ⟨b, off, rfl, hbs, r0⟩ := HR1.out.at_ (ints_get (num_at (ns := ns) (i := 0) (by omega)))
    have hp : ns.getD 0 0 = pN ns := rfl
    rw [hp] at r0
    simp only [Nat.add_zero] at r0
    generalize pN ns = z at *
    have i1 : (0 : Int) < (n1 : Int) := by omega
    clear hg h3 hl h2 hp
    go_enter Try.func101, Try.ntmps101
    go_upto_region 1 with fail
    rw [← hw0]
    clear hw0
    go_wp2_with fail
    refine (contextSizeOk_any _ _).mono ?_
    rw [HG.out]
    rintro e w3 ⟨rfl, rfl⟩
    go_wp2_with fail
    exact bodyPost_ret (v := .tuple #[csV 0 none 0 0 none 0 0 none 0 0, .bool false]) (by simp [results, Try.results101, go_sem, y0, y1, y2, y3]) rfl ⟨0, none, 0, 0, none, 0, 0, none, 0, 0, rfl, by first | exact HB.out | exact below_set4 HB.out (by omega) HB.out.size, by simp⟩
end Go.Proofs.Ytjgajjcgapifoaa
