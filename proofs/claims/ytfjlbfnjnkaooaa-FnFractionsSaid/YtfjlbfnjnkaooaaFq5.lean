/- Programs of fractions that are drawn. -/
import Derived.Test.YtfjlbfnjnkaooaaFq2
import Derived.Test.YtfjlbfnjnkaooaaArS
namespace Go.Proofs.Ytfjlbfnjnkaooaa
open Go.RowKit Limb
set_option linter.unusedSimpArgs false
set_option linter.unusedVariables false
set_option maxHeartbeats 4000000 in
set_option maxRecDepth 100000 in
theorem l08Make_any (w : World) (A : Option Addr) (n c m : Nat) (hnm : n = m * 2) (fs : List Fr) (hr : Rd w A n (ints (flatF fs))) (hm : m ≤ 100) : Calls Try.prog 90 #[.slice A n c] w (RetN w 39 2 (ints (flatF fs))) := by
  have HL : Hid (fs.length = m) := Lib.hid (by have := hr.1; simp [flatF_len] at this; omega)
  subst hnm
  have HR := Lib.hid hr
  clear hr
  go_enter Try.func90, Try.ntmps90
  go_wp2_with fail
  go_loopw [3, 4] (fun p q wr => ∃ (k i : Nat) (A : Option Addr) (c : Nat), k ≤ m ∧ Hid (i = 2 * k) ∧ q = .int .i64 (i : Int) ∧ p = .slice A k c ∧ wr.ownsRow w.heap.size 39 2 (.slice A k c) k (ints (flatF (fs.take k))) ∧ Below w.heap.size w wr) (fun _ q _ => 2 * m - (intOf q).toNat)
  case atStart => exact ⟨0, 0, _, 0, Nat.zero_le _, Lib.hid rfl, rfl, rfl, ownN_lit w #[] 0 2 39 rfl (by omega), below_new _ _⟩
  case round =>
    obtain ⟨k, i, A2, c2, hk, HI, rfl, rfl, ho, hb⟩ := hrel
    have HO := Lib.hid ho; have HB := Lib.hid hb
    clear ho hb
    by_cases hlt : k < m
    · obtain ⟨x, hx⟩ := get_some (xs := fs) (k := k) (by rw [HL.out]; omega)
      obtain ⟨b, off, rfl, hbs, q0, q1⟩ := rdF HR.out hx
      replace q0 := (HB.out.cell (p := ⟨b, off + k * 2, none⟩) hbs).trans q0
      replace q1 := (HB.out.cell (p := ⟨b, off + k * 2 + 1, none⟩) hbs).trans q1
      have HX := Lib.hid hx
      obtain ⟨u, d⟩ := x
      simp only at q0 q1
      rw [show off + k * 2 = off + i by have := HI.out; omega] at q0 q1
      have HN : Hid (∀ j u', [Value.int .i64 (u : Int), .int .i64 (d : Int)][j]? = some u' → (wr.alloc (.cells #[.int .i64 (u : Int), .int .i64 (d : Int)] 39)).cell? ((⟨wr.heap.size, 0, none⟩ : Addr).add j) = some u') := Lib.hid (rd_new2 wr _ _ _)
      have HO3 : Hid ((wr.alloc (.cells #[.int .i64 (u : Int), .int .i64 (d : Int)] 39)).ownsRow w.heap.size 39 2 (.slice A2 k c2) k (ints (flatF (fs.take k)))) := Lib.hid (ownN_below HO.out (below_new _ _) (Nat.le_refl _))
      have HS3 : Hid (w.heap.size ≤ (wr.alloc (.cells #[.int .i64 (u : Int), .int .i64 (d : Int)] 39)).heap.size) := Lib.hid (by have h := HB.out.size; simp; omega)
      have HB3 : Hid (Below w.heap.size w (wr.alloc (.cells #[.int .i64 (u : Int), .int .i64 (d : Int)] 39))) := Lib.hid (HB.out.alloc HB.out.size _)
      have hi1 : i + 1 < m * 2 := by have := HI.out; omega
      have hi0 : i < m * 2 := by omega
      have hi2 : (0 : Int) ≤ (i : Int) + 1 ∧ (i : Int) + 1 < (m : Int) * 2 := by omega
      rw [show off + i + 1 = off + (i + 1) by omega] at q1
      have hw1 : IntKind.i64.wrap ((i : Int) + 1) = (i : Int) + 1 := IntWalk.i64_in _ (by omega)
      clear hx
      go_wp2_with fail
      (first | (go_region_law (first
        | (refine step_app1N eltF (by rfl) _ _ (by rfl) _ w.heap.size (.slice A2 k c2) k (ints (flatF (fs.take k))) (by rfl) (by have h := HO3.out; exact h) ⟨wr.heap.size, 0, none⟩ [.int .i64 (u : Int), .int .i64 (d : Int)] rfl (by rfl) (by have h := HN.out; exact h) (by simp [Value.oneCell']) (by have h := HS3.out; exact h) (by omega) ?_
           intro A9 c9 w9 ho9 hg9
           have HO9 := Lib.hid ho9; have HG9 := Lib.hid hg9
           clear ho9 hg9))) | fail)
      all_goals
        as_aux_lemma =>
        have ho9 := HO9.out
        have e1 : [Value.int .i64 (u : Int), .int .i64 (d : Int)] = [.int .i64 ((⟨u, d⟩ : Fr).up : Int), .int .i64 ((⟨u, d⟩ : Fr).dn : Int)] := rfl
        rw [e1, ints_pair] at ho9
        have e2 : fs.take k ++ [⟨u, d⟩] = fs.take (k + 1) := by rw [List.take_add_one, HX.out]; simp
        rw [e2] at ho9
        have HO10 := Lib.hid ho9
        have HB9 : Hid (Below w.heap.size w w9) := Lib.hid (HB3.out.trans (below_grown (base := w.heap.size) (by have h := HG9.out; first | exact h | exact grown_undrew h) HS3.out (fun q hq => (HO3.out.lt q hq).1)))
        clear ho9 e1 HO9 HG9
        go_wp2_with fail
        go_roundw
        case rel => exact ⟨k + 1, i + 2, A9, c9, by omega, Lib.hid (by have := HI.out; omega), by go_num, rfl, HO10.out, HB9.out⟩
        case measure => simp only [intOf]; omega
    · obtain rfl : k = m := by omega
      have hi : ¬ i < k * 2 := by have := HI.out; omega
      go_wp2_with fail
      go_ret
      have ho := HO.out
      rw [List.take_of_length_le (by rw [HL.out]; exact Nat.le_refl _)] at ho
      exact ⟨A2, k, c2, rfl, ho, HB.out⟩
def fr1 : List Fr := [⟨3, 2⟩]
def fr2 : List Fr := [⟨455, 33⟩, ⟨11, 13⟩, ⟨1, 11⟩, ⟨3, 7⟩, ⟨11, 2⟩, ⟨1, 3⟩]
def fr3 : List Fr := [⟨17, 91⟩, ⟨78, 85⟩, ⟨19, 51⟩, ⟨23, 38⟩, ⟨29, 33⟩, ⟨77, 29⟩, ⟨95, 23⟩, ⟨77, 19⟩, ⟨1, 17⟩, ⟨11, 13⟩, ⟨13, 11⟩, ⟨15, 14⟩, ⟨15, 2⟩, ⟨55, 1⟩]
theorem okFs_of (fs : List Fr) (h1 : 1 ≤ fs.length) (h2 : fs.length ≤ 100) (h3 : fs.all (fun x => decide (1 ≤ x.up) && decide (x.up ≤ 999) && decide (1 ≤ x.dn) && decide (x.dn ≤ 999)) = true) : OkFs fs :=
  ⟨h1, h2, fun x hx => by
    have h := List.all_eq_true.1 h3 x hx
    simp only [Bool.and_eq_true, decide_eq_true_eq] at h
    exact ⟨h.1.1.1, h.1.1.2, h.1.2, h.2⟩⟩
/-- A list of fractions in a row of the call's own. -/
def FrP (w : World) (e : Ending) (w' : World) : Prop := ∃ (fs : List Fr) (A : Option Addr) (n c : Nat), e = .returned (.slice A n c) ∧ OkFs fs ∧ w'.ownsRow w.heap.size 39 2 (.slice A n c) n (ints (flatF fs)) ∧ Below w.heap.size w w'
set_option maxHeartbeats 1000000 in
theorem l08Known_any (w : World) (k : Int) : Calls Try.prog 61 #[.int .i64 k] w (FrP w) := by
  by_cases h0 : k = 0
  · subst h0
    have HR := Lib.hid (own_rd (own_lit w #[.int .i64 3, .int .i64 2] 2 2 rfl (by omega)))
    have HB := Lib.hid (below_new w (.cells #[.int .i64 3, .int .i64 2] 2))
    go_enter Try.func61, Try.ntmps61
    go_wp2_with fail
    refine (l08Make_any _ _ 2 2 1 rfl fr1 HR.out (by omega)).mono ?_
    rintro e w1 ⟨A, n, c, rfl, ho, hb⟩
    go_wp2_with fail
    go_ret
    exact ⟨fr1, A, n, c, rfl, okFs_of _ (by decide) (by decide) (by decide), ownN_base ho HB.out.size, HB.out.trans (hb.mono HB.out.size)⟩
  · by_cases h1 : k = 1
    · subst h1
      have HR := Lib.hid (own_rd (own_lit w #[.int .i64 455, .int .i64 33, .int .i64 11, .int .i64 13, .int .i64 1, .int .i64 11, .int .i64 3, .int .i64 7, .int .i64 11, .int .i64 2, .int .i64 1, .int .i64 3] 12 2 rfl (by omega)))
      have HB := Lib.hid (below_new w (.cells #[.int .i64 455, .int .i64 33, .int .i64 11, .int .i64 13, .int .i64 1, .int .i64 11, .int .i64 3, .int .i64 7, .int .i64 11, .int .i64 2, .int .i64 1, .int .i64 3] 2))
      go_enter Try.func61, Try.ntmps61
      go_wp2_with fail
      refine (l08Make_any _ _ 12 12 6 rfl fr2 HR.out (by omega)).mono ?_
      rintro e w1 ⟨A, n, c, rfl, ho, hb⟩
      go_wp2_with fail
      go_ret
      exact ⟨fr2, A, n, c, rfl, okFs_of _ (by decide) (by decide) (by decide), ownN_base ho HB.out.size, HB.out.trans (hb.mono HB.out.size)⟩
    · obtain ⟨cs, hcs⟩ : ∃ cs : Array Value, cs = #[.int .i64 17, .int .i64 91, .int .i64 78, .int .i64 85, .int .i64 19, .int .i64 51, .int .i64 23, .int .i64 38, .int .i64 29, .int .i64 33, .int .i64 77, .int .i64 29, .int .i64 95, .int .i64 23, .int .i64 77, .int .i64 19, .int .i64 1, .int .i64 17, .int .i64 11, .int .i64 13, .int .i64 13, .int .i64 11, .int .i64 15, .int .i64 14, .int .i64 15, .int .i64 2, .int .i64 55, .int .i64 1] := ⟨_, rfl⟩
      have HR : Hid (Rd (w.alloc (.cells cs 2)) (some ⟨w.heap.size, 0, none⟩) 28 (ints (flatF fr3))) := Lib.hid (by
        have h := own_rd (own_lit w cs 28 2 (by rw [hcs]; rfl) (by omega))
        have e : cs.toList = ints (flatF fr3) := by rw [hcs]; rfl
        rwa [e] at h)
      have HB := Lib.hid (below_new w (.cells cs 2))
      go_enter Try.func61, Try.ntmps61
      go_wp2_with fail
      rw [← hcs]
      refine (l08Make_any _ _ 28 28 14 rfl fr3 HR.out (by omega)).mono ?_
      rintro e w1 ⟨A, n, c, rfl, ho, hb⟩
      clear hcs
      go_wp2_with fail
      go_ret
      exact ⟨fr3, A, n, c, rfl, okFs_of _ (by decide) (by decide) (by decide), ownN_base ho HB.out.size, HB.out.trans (hb.mono HB.out.size)⟩
end Go.Proofs.Ytfjlbfnjnkaooaa
