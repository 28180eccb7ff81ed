/- Prefix codes: the program's functions. -/
import Derived.Test.YtbecofpklndpaaaPcM
import Derived.Test.YtbecofpklndpaaaWr
import Derived.Test.YtbecofpklndpaaaLawP
import Derived.Test.YtbecofpklndpaaaApp
namespace Go.Proofs.Ytbecofpklndpaaa
open Go.RowKit
set_option linter.unusedVariables false
set_option linter.unusedSimpArgs false
theorem take_eq_step {xs ys : List Int} {k : Nat} {x : Int} (h : xs.take k = ys.take k) (hx : xs[k]? = some x) (hy : ys[k]? = some x) : xs.take (k + 1) = ys.take (k + 1) := by
  rw [List.take_add_one, List.take_add_one, hx, hy, h]
set_option maxHeartbeats 1000000 in
theorem equal_any (w : World) (A A' : Option Addr) (n c n' c' : Nat) (xs ys : List Int) (hr : Rd w A n (ints xs)) (hr' : Rd w A' n' (ints ys)) (hn : n ≤ 1000000000) (hn' : n' ≤ 1000000000) :
    Calls Try.prog 184 #[.slice A n c, .slice A' n' c'] w (RetV w (.bool (decide (xs = ys)))) := by
  have HL : Hid (xs.length = n) := Lib.hid (by simpa using hr.1)
  have HL' : Hid (ys.length = n') := Lib.hid (by simpa using hr'.1)
  by_cases hnn : n = n'
  · subst hnn
    have h0 : ((n : Int) != (n : Int)) = false := by simp
    go_enter Try.func184, Try.ntmps184
    go_wp2_with fail
    go_loopw [13] (fun q wr => ∃ k : Nat, k ≤ n ∧ q = .int .i64 k ∧ Hid (xs.take k = ys.take k) ∧ Below w.heap.size w wr) (fun q _ => n - (intOf q).toNat)
    case atStart => exact ⟨0, Nat.zero_le _, rfl, Lib.hid (by simp), Below.refl _ _⟩
    case round =>
      obtain ⟨k, hk, rfl, HE, hb⟩ := hrel
      by_cases h1 : k < n
      · obtain ⟨x, hx⟩ := get_some (xs := xs) (k := k) (by rw [HL.out]; omega)
        obtain ⟨y, hy⟩ := get_some (xs := ys) (k := k) (by rw [HL'.out]; omega)
        obtain ⟨b, off, rfl, hbk, hcx⟩ := hr.at_ (ints_get hx)
        obtain ⟨b', off', rfl, hbk', hcy⟩ := hr'.at_ (ints_get hy)
        have c1 := (hb.cell (p := ⟨b, off + k, none⟩) hbk).trans hcx
        have c2 := (hb.cell (p := ⟨b', off' + k, none⟩) hbk').trans hcy
        have hi0 : (0 : Int) ≤ (k : Int) := by omega
        have hi1 : (k : Int) < (n : Int) := by omega
        have HBB := Lib.hid hb
        by_cases hxy : x = y
        · subst hxy
          have HN := Lib.hid (take_eq_step HE.out hx hy)
          have hne : (x != x) = false := by simp
          clear hx hy hcx hcy hb
          go_wp2_with fail
          go_quiet (fail)
          go_wp2_with fail
          go_roundw
          case rel => exact ⟨k + 1, by omega, by go_num, HN, below_drewN HBB.out⟩
          case measure => simp [intOf]; omega
        · have HN : Hid (decide (xs = ys) = false) := Lib.hid (decide_eq_false (by rintro rfl; rw [hx] at hy; exact hxy (by injection hy)))
          have hne : (x != y) = true := by simpa using hxy
          clear hx hy hcx hcy hb
          go_wp2_with fail
          go_quiet (fail)
          go_wp2_with fail
          go_ret
          exact ⟨by rw [HN.out]; rfl, below_drewN HBB.out⟩
      · have HN : Hid (decide (xs = ys) = true) := Lib.hid (decide_eq_true (by have h := HE.out; rwa [List.take_of_length_le (by rw [HL.out]; omega), List.take_of_length_le (by rw [HL'.out]; omega)] at h))
        go_wp2_with fail
        go_ret
        exact ⟨by rw [HN.out]; rfl, hb⟩
  · have h0 : ((n : Int) != (n' : Int)) = true := by rw [bne_iff_ne]; omega
    have HN : Hid (decide (xs = ys) = false) := Lib.hid (decide_eq_false (by rintro rfl; have h1 := HL.out; have h2 := HL'.out; omega))
    go_enter Try.func184, Try.ntmps184
    go_wp2_with fail
    go_ret
    exact ⟨by rw [HN.out]; rfl, Below.refl _ _⟩
/-- 's[:i]'. -/
theorem run_cutTo {P : Program} {t e : TypeId} {sz : Nat} (ht : P.underlying t = some (.slice e)) (hi : (P.info? e).map (·.size) = some sz) (w : World) (A : Option Addr) (len cap k : Nat) (i : Int) (q : IntKind) (hik : i = k) (h1 : k ≤ cap) :
    (Instr.slice t (.slice A len cap) none (some (.int q i)) none).run P w = .ok (.slice A k cap) w := by
  have ee : P.elem t = e := by simp [Program.elem, ht]
  subst hik
  rw [run_slice_h w t _ len cap (by rw [ee]; exact ht) q k (by omega) (by omega), ee, run_size hi w]
  have ha : ∀ a : Addr, a.add 0 = a := fun a => by simp [Addr.add]
  simp only [Result.andThen, sliced, Int.toNat_natCast, Nat.zero_mul, Nat.sub_zero, ha]
  cases A <;> simp
set_option maxHeartbeats 1000000 in
theorem begins_any (w : World) (A A' : Option Addr) (n c n' c' : Nat) (xs ys : List Int) (hr : Rd w A n (ints xs)) (hr' : Rd w A' n' (ints ys)) (hn : n ≤ 1000000000) (hn' : n' ≤ 1000000000) (hc : n ≤ c) :
    Calls Try.prog 97 #[.slice A n c, .slice A' n' c'] w (RetV w (.bool (bgn xs ys))) := by
  have hl : xs.length = n := by simpa using hr.1
  have hl' : ys.length = n' := by simpa using hr'.1
  by_cases h : n' ≤ n
  · have HO : Hid (bgn xs ys = decide (xs.take n' = ys)) := Lib.hid (by unfold bgn; rw [decide_eq_true (by omega), hl']; rfl)
    have hsl := fun (w : World) => run_cutTo Try.underlying25 Try.szI w A n c n' (n' : Int) .i64 rfl (by omega)
    have hrt : Rd w A n' (ints (xs.take n')) := by have h1 := hr.take n' h; rwa [← List.map_take] at h1
    have d1 : decide ((n' : Int) ≤ (n : Int)) = true := decide_eq_true (by omega)
    have d2 : decide (n' ≤ n) = true := decide_eq_true h
    clear hl hl'
    go_enter Try.func97, Try.ntmps97
    go_wp2_with (go_at_call 184; refine (equal_any _ _ _ _ _ _ _ (xs.take n') ys hrt hr' (by omega) (by omega)).mono ?_; rintro e w1 ⟨rfl, hb1⟩)
    go_ret
    exact ⟨by rw [HO.out]; rfl, hb1⟩
  · have HO : Hid (bgn xs ys = false) := Lib.hid (by unfold bgn; rw [decide_eq_false (by omega)]; rfl)
    have d1 : decide ((n' : Int) ≤ (n : Int)) = false := decide_eq_false (by omega)
    have d2 : decide (n' ≤ n) = false := decide_eq_false h
    clear hl hl'
    go_enter Try.func97, Try.ntmps97
    go_wp2_with fail
    go_ret
    exact ⟨by rw [HO.out]; rfl, Below.refl _ _⟩
end Go.Proofs.Ytbecofpklndpaaa
