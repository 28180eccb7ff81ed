/- Proofs by contexts: rising and sorted lists (reference). -/
import Derived.Test.YtjgajjcgapifoaaPrfS
import Derived.Test.YtjgajjcgapifoaaPrfI
namespace Go.Proofs.Ytjgajjcgapifoaa
open Go.RowKit
set_option linter.unusedVariables false
set_option linter.unusedSimpArgs false
set_option maxHeartbeats 4000000 in
theorem l29Rises_any (w : World) (A : Option Addr) (n c : Nat) (xss : List (List Int)) (hr : RdL w A n xss) (hn : n ≤ 1000000000) (m : Int) :
    Calls Try.prog 82 #[.slice A n c, .int .i64 m] w (DrP w (.bool (allTo (lenUp xss m) n))) := by
  have HL : Hid (xss.length = n) := Lib.hid hr.len
  go_enter Try.func82, Try.ntmps82
  go_wp2_with fail
  go_loopw [5] (fun q wr => ∃ k : Nat, k ≤ n ∧ q = .int .i64 k ∧ Hid (allTo (lenUp xss m) k = true) ∧ Hid (∃ nq, wr = w.drewN nq)) (fun q _ => n - (intOf q).toNat)
  case atStart => exact ⟨0, by omega, rfl, Lib.hid (allTo_zero _), Lib.hid ⟨0, rfl⟩⟩
  case round =>
    obtain ⟨k, hk, rfl, hall, hw0⟩ := hrel
    have hb : Below w.heap.size w wr := by obtain ⟨nr, h⟩ := hw0.out; rw [h]; exact below_drewN (Below.refl _ _)
    by_cases hlt : k < n
    · have hlt' : (k : Int) < (n : Int) := by omega
      have hk0 : (0 : Int) ≤ (k : Int) := by omega
      obtain ⟨ys, hy⟩ := get_some (xs := xss) (k := k) (by rw [HL.out]; exact hlt)
      obtain ⟨b, off, A2, n2, c2, hA, hbs, hc2, hn2, hr2⟩ := hr.at_ hy
      subst hA
      replace hc2 := (hb.cell (p := ⟨b, off + k, none⟩) hbs).trans hc2
      have hl2 : ys.length = n2 := by simpa using hr2.1
      have hr2' := hr2.below hb (Nat.le_refl _)
      have h3 : ∀ q, Calls Try.prog 120 #[.slice A2 n2 c2] (wr.drewN q) (fun e w' => e = .returned (.bool (wordB ys)) ∧ w' = wr.drewN q) := fun q => (l03Is_any _ _ _ _ ys (by have h := hr2'; exact h) hn2).mono fun e w' h => ⟨h.1, h.2.symm⟩
      have H3 := Lib.hid (fun q => Calls.quiet_of_same (h3 q))
      have HY := Lib.hid (getD_of hy)
      have HE : Hid (lenUp xss m k = (decide ((n2 : Int) = m) && wordB ys && upAt xss k)) := Lib.hid (by rw [lenUp, HY.out, lenW, hl2])
      clear h3 hl2
      by_cases hm : (n2 : Int) = m
      · have hne : ((n2 : Int) != m) = false := by simp [hm]
        have HM : Hid (decide ((n2 : Int) = m) = true) := Lib.hid (decide_eq_true hm)
        clear hm
        generalize wordB ys = u at *
        cases u with
        | false =>
          have HN : Hid (allTo (lenUp xss m) n = false) := Lib.hid (allTo_out hlt (by rw [HE.out]; simp))
          clear hy hr2 hr2'
          go_wp2_with fail
          go_quiet ((go_at_call 120; with_reducible exact H3.out _))
          go_wp2_with fail
          go_ret
          exact ⟨by rw [HN.out]; rfl, drn_step hw0.out _⟩
        | true =>
          by_cases h0 : k = 0
          · subst h0
            simp only [Nat.add_zero] at hc2
            have HN := Lib.hid (allTo_next hall.out (by rw [HE.out, HM.out]; rfl))
            clear hy hr2 hr2'
            go_wp2_with fail
            go_quiet ((go_at_call 120; with_reducible exact H3.out _))
            go_wp2_with fail
            go_roundw
            case rel => exact ⟨1, by omega, by go_num, HN, Lib.hid (drn_step hw0.out _)⟩
            case measure => simp [intOf]; omega
          · obtain ⟨xs, hx⟩ := get_some (xs := xss) (k := k - 1) (by rw [HL.out]; omega)
            obtain ⟨b', off', A1, n1, c1, hAA, hbs', hc1, hn1, hr1⟩ := hr.at_ hx
            injection hAA with hAA
            injection hAA with e1 e2
            subst e1 e2
            replace hc1 := (hb.cell (p := ⟨b, off + (k - 1), none⟩) hbs').trans hc1
            have hw : IntKind.i64.wrap ((k : Int) - 1) = (k : Int) - 1 := IntWalk.i64_in _ (by omega)
            have ht : ((k : Int) - 1).toNat = k - 1 := by omega
            have hi0 : (0 : Int) ≤ (k : Int) - 1 := by omega
            have hi1 : (k : Int) - 1 < (n : Int) := by omega
            have hk1 : (0 : Int) < (k : Int) := by omega
            have hk1' : 0 < k := by omega
            have HU := Lib.hid (upAt_of (by omega) hx hy)
            have hr1' := hr1.below hb (Nat.le_refl _)
            have hcmp : ∀ q, Calls Try.prog 125 #[.slice A1 n1 c1, .slice A2 n2 c2] (wr.drewN q) (DrP (wr.drewN q) (.int .i64 (cmpL xs ys))) := fun q => l01Compare_any _ _ _ _ _ _ _ xs ys (by have h := hr1'; exact h) (by have h := hr2'; exact h) hn1 hn2
            have HCMP := Lib.hid (fun q => Calls.quiet_of (hcmp q))
            clear hx hy hcmp hr1 hr2 hr1' hr2'
            generalize cmpL xs ys = zz at *
            have HZ2 := Lib.hid HU.out
            by_cases hz : zz < 0
            · have hz2 : decide ((0 : Int) ≤ zz) = false := decide_eq_false (by omega)
              have hz3 : ¬ (0 : Int) ≤ zz := by omega
              have HN := Lib.hid (allTo_next hall.out (by rw [HE.out, HM.out, HU.out, decide_eq_true hz]; rfl))
              go_wp2_with fail
              go_quiet (first
                | (go_at_call 120; with_reducible exact H3.out _)
                | (go_at_call 125; with_reducible exact HCMP.out _))
              go_wp2_with fail
              go_roundw
              case rel => exact ⟨k + 1, by omega, by go_num, HN, Lib.hid (drn_step hw0.out _)⟩
              case measure => simp [intOf]; omega
            · have hz2 : decide ((0 : Int) ≤ zz) = true := decide_eq_true (by omega)
              have hz3 : (0 : Int) ≤ zz := by omega
              have HN : Hid (allTo (lenUp xss m) n = false) := Lib.hid (allTo_out hlt (by rw [HE.out, HM.out, HU.out, decide_eq_false hz]; rfl))
              go_wp2_with fail
              go_quiet (first
                | (go_at_call 120; with_reducible exact H3.out _)
                | (go_at_call 125; with_reducible exact HCMP.out _))
              go_wp2_with fail
              go_ret
              exact ⟨by rw [HN.out]; rfl, drn_step hw0.out _⟩
      · have hne : ((n2 : Int) != m) = true := by simpa using hm
        have HN : Hid (allTo (lenUp xss m) n = false) := Lib.hid (allTo_out hlt (by rw [HE.out]; simp [hm]))
        clear hm hy hr2 hr2'
        go_wp2_with fail
        go_quiet ((go_at_call 120; with_reducible exact H3.out _))
        go_wp2_with fail
        go_ret
        exact ⟨by rw [HN.out]; rfl, drn_step hw0.out _⟩
    · obtain rfl : k = n := by omega
      go_wp2_with fail
      go_ret
      exact ⟨by rw [hall.out]; rfl, hw0.out⟩
/-- Windows and contexts in a box. -/
def BS (w : World) (g : Nat) (m : Int) (A1 : Option Addr) (n1 c1 : Nat) (A2 : Option Addr) (n2 c2 : Nat) (A3 : Option Addr) (n3 c3 : Nat) (A4 : Option Addr) (n4 c4 : Nat) : Prop := w.heap[g]? = some (.cells #[.int .i64 m, .slice A1 n1 c1, .slice A2 n2 c2, .slice A3 n3 c3, .slice A4 n4 c4] 104 (0, 0))
section
variable {w w' : World} {g : Nat} {m : Int} {A1 : Option Addr} {n1 c1 : Nat} {A2 : Option Addr} {n2 c2 : Nat} {A3 : Option Addr} {n3 c3 : Nat} {A4 : Option Addr} {n4 c4 : Nat}
theorem BS.bel (h : BS w g m A1 n1 c1 A2 n2 c2 A3 n3 c3 A4 n4 c4) (hb : Below w.heap.size w w') : BS w' g m A1 n1 c1 A2 n2 c2 A3 n3 c3 A4 n4 c4 := blk_bel h hb
theorem BS.cells (h : BS w g m A1 n1 c1 A2 n2 c2 A3 n3 c3 A4 n4 c4) :
    w.cell? ⟨g, 0, none⟩ = some (.int .i64 m) ∧ w.cell? ⟨g, 1, none⟩ = some (.slice A1 n1 c1) ∧ w.cell? ⟨g, 2, none⟩ = some (.slice A2 n2 c2) ∧ w.cell? ⟨g, 3, none⟩ = some (.slice A3 n3 c3) ∧ w.cell? ⟨g, 4, none⟩ = some (.slice A4 n4 c4) := ⟨blk_cell h 0 rfl, blk_cell h 1 rfl, blk_cell h 2 rfl, blk_cell h 3 rfl, blk_cell h 4 rfl⟩
end
theorem ordAt_of {sts : List Int} {cs : List (List Int)} {k : Nat} {a b : Int} {xs ys : List Int} (h0 : 1 ≤ k) (h1 : sts[k - 1]? = some a) (h2 : cs[k - 1]? = some xs) (h3 : sts[k]? = some b) (h4 : cs[k]? = some ys) : ordAt sts cs k = decide (cmpL (a :: xs) (b :: ys) < 0) := by
  simp only [ordAt, getD_of h2, getD_of h4, getI_of h1, getI_of h3, decide_eq_false (show ¬ k = 0 by omega), Bool.false_or]
def sortS (m : Int) (ls rs cs : List (List Int)) (sts : List Int) : Bool := allTo (lenUp ls m) ls.length && allTo (lenUp rs m) rs.length && allTo (ordAt sts cs) cs.length
set_option maxHeartbeats 8000000 in
theorem l29Sorted_any (w : World) (g : Nat) (m : Int) (A1 : Option Addr) (n1 c1 : Nat) (A2 : Option Addr) (n2 c2 : Nat) (A3 : Option Addr) (n3 c3 : Nat) (A4 : Option Addr) (n4 c4 : Nat) (hp : BS w g m A1 n1 c1 A2 n2 c2 A3 n3 c3 A4 n4 c4)
    (ls rs cs : List (List Int)) (sts : List Int) (hr1 : RdL w A1 n1 ls) (hn1 : n1 ≤ 1000000000) (hr2 : RdL w A2 n2 rs) (hn2 : n2 ≤ 1000000000) (hr3 : RdL w A3 n3 cs) (hn3 : n3 ≤ 1000000000) (hr4 : Rd w A4 n4 (ints sts)) (h34 : n4 = n3) :
    Calls Try.prog 75 #[.pointer (some ⟨g, 0, none⟩)] w (DrP w (.bool (sortS m ls rs cs sts))) := by
  subst h34
  have HL3 : Hid (cs.length = n4) := Lib.hid hr3.len
  have HL4 : Hid (sts.length = n4) := Lib.hid (by simpa using hr4.1)
  have HP := Lib.hid hp
  obtain ⟨y0, y1, y2, y3, y4⟩ := hp.cells
  have hs1 : ∀ q, Calls Try.prog 82 #[.slice A1 n1 c1, .int .i64 m] (w.drewN q) (DrP (w.drewN q) (.bool (allTo (lenUp ls m) n1))) := fun q => l29Rises_any (w.drewN q) A1 n1 c1 ls (by have h := hr1; exact h) hn1 m
  have hs2 : ∀ q, Calls Try.prog 82 #[.slice A2 n2 c2, .int .i64 m] (w.drewN q) (DrP (w.drewN q) (.bool (allTo (lenUp rs m) n2))) := fun q => l29Rises_any (w.drewN q) A2 n2 c2 rs (by have h := hr2; exact h) hn2 m
  have HS1 := Lib.hid (fun q => Calls.quiet_of (hs1 q))
  have HS2 := Lib.hid (fun q => Calls.quiet_of (hs2 q))
  have HO : Hid (sortS m ls rs cs sts = (allTo (lenUp ls m) n1 && allTo (lenUp rs m) n2 && allTo (ordAt sts cs) n4)) := Lib.hid (by rw [sortS, hr1.len, hr2.len, hr3.len])
  clear hs1 hs2 hp hr1 hr2
  generalize allTo (lenUp ls m) n1 = u1 at *
  generalize allTo (lenUp rs m) n2 = u2 at *
  cases u1 with
  | false =>
    go_enter Try.func75, Try.ntmps75
    go_wp2_with fail
    go_quiet (first
      | (go_at_call 82; with_reducible exact HS1.out _)
      | (go_at_call 82; with_reducible exact HS2.out _))
    go_wp2_with fail
    go_ret
    exact ⟨by rw [HO.out]; rfl, ⟨_, rfl⟩⟩
  | true =>
    cases u2 with
    | false =>
      go_enter Try.func75, Try.ntmps75
      go_wp2_with fail
      go_quiet (first
        | (go_at_call 82; with_reducible exact HS1.out _)
        | (go_at_call 82; with_reducible exact HS2.out _))
      go_wp2_with fail
      go_ret
      exact ⟨by rw [HO.out]; rfl, ⟨_, rfl⟩⟩
    | true =>
      have HO2 : Hid (sortS m ls rs cs sts = allTo (ordAt sts cs) n4) := Lib.hid (by rw [HO.out]; rfl)
      go_enter Try.func75, Try.ntmps75
      go_wp2_with fail
      go_quiet (first
        | (go_at_call 82; with_reducible exact HS1.out _)
        | (go_at_call 82; with_reducible exact HS2.out _))
      go_wp2_with fail
      go_loopw [3] (fun q wr => ∃ k : Nat, 1 ≤ k ∧ (k ≤ n4 ∨ k = 1) ∧ q = .int .i64 k ∧ Hid (allTo (ordAt sts cs) k = true) ∧ Hid (∃ nq, wr = w.drewN nq)) (fun q _ => n4 - (intOf q).toNat)
      case atStart => exact ⟨1, by omega, .inr rfl, rfl, Lib.hid (by simp [allTo, ordAt]), Lib.hid ⟨_, rfl⟩⟩
      case round =>
        obtain ⟨k, h1k, hk, rfl, hall, hw0⟩ := hrel
        have hb : Below w.heap.size w wr := by obtain ⟨nr, h⟩ := hw0.out; rw [h]; exact below_drewN (Below.refl _ _)
        clear y0 y1 y2 y3 y4
        obtain ⟨y0, y1, y2, y3, y4⟩ := (HP.out.bel hb).cells
        by_cases hlt : k < n4
        · have hlt' : (k : Int) < (n4 : Int) := by omega
          have hk0 : (0 : Int) ≤ (k : Int) := by omega
          obtain ⟨ys, hy⟩ := get_some (xs := cs) (k := k) (by rw [HL3.out]; exact hlt)
          obtain ⟨xs, hx⟩ := get_some (xs := cs) (k := k - 1) (by rw [HL3.out]; omega)
          obtain ⟨sb, hsb⟩ := get_some (xs := sts) (k := k) (by rw [HL4.out]; exact hlt)
          obtain ⟨sa, hsa⟩ := get_some (xs := sts) (k := k - 1) (by rw [HL4.out]; omega)
          obtain ⟨b, off, A5, n5, c5, hA, hbs, hc1, hn5, hr5⟩ := hr3.at_ hx
          obtain ⟨b', off', A6, n6, c6, hAA, hbs', hc2, hn6, hr6⟩ := hr3.at_ hy
          obtain ⟨d, of, hD, hds, hc3⟩ := hr4.at_ (ints_get hsa)
          obtain ⟨d', of', hDD, hds', hc4⟩ := hr4.at_ (ints_get hsb)
          subst hA hD
          injection hAA with hAA
          injection hAA with e1 e2
          subst e1 e2
          injection hDD with hDD
          injection hDD with e1 e2
          subst e1 e2
          replace hc1 := (hb.cell (p := ⟨b, off + (k - 1), none⟩) hbs).trans hc1
          replace hc2 := (hb.cell (p := ⟨b, off + k, none⟩) hbs).trans hc2
          replace hc3 := (hb.cell (p := ⟨d, of + (k - 1), none⟩) hds).trans hc3
          replace hc4 := (hb.cell (p := ⟨d, of + k, none⟩) hds).trans hc4
          have hw : IntKind.i64.wrap ((k : Int) - 1) = (k : Int) - 1 := IntWalk.i64_in _ (by omega)
          have ht : ((k : Int) - 1).toNat = k - 1 := by omega
          have hi0 : (0 : Int) ≤ (k : Int) - 1 := by omega
          have hi1 : (k : Int) - 1 < (n4 : Int) := by omega
          have HU := Lib.hid (ordAt_of h1k hsa hx hsb hy)
          have hr5' := hr5.below hb (Nat.le_refl _)
          have hr6' := hr6.below hb (Nat.le_refl _)
          have hcmp : ∀ q, Calls Try.prog 121 #[.int .i64 sa, .slice A5 n5 c5, .int .i64 sb, .slice A6 n6 c6] (wr.drewN q) (DrP (wr.drewN q) (.int .i64 (cmpL (sa :: xs) (sb :: ys)))) := fun q => l29Order_any _ _ _ _ _ _ _ sa sb xs ys (by have h := hr5'; exact h) (by have h := hr6'; exact h) hn5 hn6
          have HCMP := Lib.hid (fun q => Calls.quiet_of (hcmp q))
          clear hx hy hsa hsb hcmp hr5 hr6 hr5' hr6'
          generalize cmpL (sa :: xs) (sb :: ys) = z at *
          by_cases hz : z < 0
          · have hz2 : decide ((0 : Int) ≤ z) = false := decide_eq_false (by omega)
            have hz3 : ¬ (0 : Int) ≤ z := by omega
            have HN := Lib.hid (allTo_next hall.out (by rw [HU.out]; exact decide_eq_true hz))
            go_wp2_with fail
            go_quiet ((go_at_call 121; with_reducible exact HCMP.out _))
            go_wp2_with fail
            go_roundw
            case rel => exact ⟨k + 1, by omega, .inl (by omega), by go_num, HN, Lib.hid (drn_step hw0.out _)⟩
            case measure => simp [intOf]; omega
          · have hz2 : decide ((0 : Int) ≤ z) = true := decide_eq_true (by omega)
            have hz3 : (0 : Int) ≤ z := by omega
            have HN : Hid (allTo (ordAt sts cs) n4 = false) := Lib.hid (allTo_out hlt (by rw [HU.out]; exact decide_eq_false hz))
            go_wp2_with fail
            go_quiet ((go_at_call 121; with_reducible exact HCMP.out _))
            go_wp2_with fail
            go_ret
            exact ⟨by rw [HO2.out, HN.out]; rfl, drn_step hw0.out _⟩
        · have HN := Lib.hid (allTo_le hall.out (show n4 ≤ k by omega))
          go_wp2_with fail
          go_ret
          exact ⟨by rw [HO2.out, HN.out]; rfl, hw0.out⟩
end Go.Proofs.Ytjgajjcgapifoaa
