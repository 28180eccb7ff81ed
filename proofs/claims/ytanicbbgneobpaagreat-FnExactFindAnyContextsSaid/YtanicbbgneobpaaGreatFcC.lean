/- FindContexts (reference): a copy of words. -/
import Derived.Test.YtanicbbgneobpaaGreatGF
import Derived.Test.YtanicbbgneobpaaGreatGA
namespace Go.Proofs.YtanicbbgneobpaaGreat
open Go.RowKit
set_option linter.unusedVariables false
set_option linter.unusedSimpArgs false
set_option maxHeartbeats 4000000 in
theorem l29Copy_any (w : World) (A : Option Addr) (n c : Nat) (xss : List (List Int)) (hr : RdL w A n xss) (hn : n ≤ 1000000000) :
    Calls Tryz.prog 87 #[.slice A n c] w (RetP w xss) := by
  have HL : Hid (xss.length = n) := Lib.hid hr.len
  have H0 := Lib.hid (Bld.nil w _ rfl)
  have HB0 := Lib.hid (below_new w (.cells #[] 25))
  go_enter Tryz.func87, Tryz.ntmps87
  go_wp2_with fail
  go_loopw [3, 4] (fun q i wr => ∃ (k : Nat) (A3 : Option Addr) (c3 : Nat), k ≤ n ∧ i = .int .i64 k ∧ q = .slice A3 k c3 ∧ Bld wr w.heap.size A3 k c3 (xss.take k) ∧ Below w.heap.size w wr) (fun _ i _ => n - (intOf i).toNat)
  case atStart => exact ⟨0, _, _, by omega, rfl, rfl, by simpa using H0.out, HB0.out⟩
  case round =>
    obtain ⟨k, A3, c3, hk, rfl, rfl, hbl, hb⟩ := hrel
    by_cases hlt : k < n
    · have hlt' : (k : Int) < (n : Int) := by omega
      obtain ⟨xs, hx⟩ := get_some (xs := xss) (k := k) (by rw [HL.out]; exact hlt)
      obtain ⟨b, off, A', n', c', rfl, hbs, hc, hn', hr'⟩ := hr.at_ hx
      have hc1 := (hb.cell (p := ⟨b, off + k, none⟩) hbs).trans hc
      have HT : Hid (xss.take (k + 1) = xss.take k ++ [xs]) := Lib.hid (by rw [List.take_add_one, hx]; rfl)
      have HBL := Lib.hid hbl
      have HB := Lib.hid hb
      clear hx hc hbl
      go_wp2_with fail
      refine (l00Own_any _ _ _ _ xs (hr'.below hb (Nat.le_refl _)) (by omega)).mono ?_
      rintro e w2 ⟨A2, n2, c2, rfl, ho2, hb2⟩
      have hn2 : n2 ≤ 1000000000 := by have h1 := ho2.1; have h2 := hr'.1; simp at h1 h2; omega
      obtain ⟨us, hu1, hu2⟩ := HBL.out.step hb2 ho2 hn2 HB.out.size
      have HU2 := Lib.hid hu2
      have HB2 := Lib.hid (HB.out.trans (hb2.mono HB.out.size))
      clear hu2 ho2 hb2 hb hn2
      go_wp2_with (at_builtin; go_must (refine wpList_app1g Tryz.eltS rfl _ _ rfl w2 w.heap.size _ k us (by rfl) hu1 (.slice A2 n2 c2) rfl (by rfl) HB2.out.size (by omega) ?_); rintro A4 c4 w4 ho4 hb4 hg4)
      go_roundw
      case rel => exact ⟨k + 1, A4, c4, by omega, by go_num, rfl, by rw [HT.out]; exact HU2.out A4 c4 w4 ho4 hg4, HB2.out.trans hb4⟩
      case measure => simp [intOf]; omega
    · obtain rfl : k = n := by omega
      have HE : Hid (xss.take k = xss) := Lib.hid (List.take_of_length_le (by rw [HL.out]; omega))
      go_wp2_with fail
      go_ret
      rw [HE.out] at hbl
      exact ⟨A3, k, c3, _, rfl, hbl.ownp, fun q hq => hq, hb⟩
end Go.Proofs.YtanicbbgneobpaaGreat
