/- Prefix codes: EncodeWith and DecodeWith. -/
import Derived.Test.YtbecofpklndpaaaPc2
namespace Go.Proofs.Ytbecofpklndpaaa
open Go.RowKit
set_option linter.unusedVariables false
set_option linter.unusedSimpArgs false
set_option maxHeartbeats 400000 in
theorem sizeLL_any (w : World) (A : Option Addr) (n c : Nat) (hn : n ≤ 1099511627776) : Calls Try.prog 93 #[.slice A n c] w fun e w' => e = .returned (.int .i64 n) ∧ w = w' := by
  go_enter Try.func93, Try.ntmps93
  go_wp2_with fail
  go_ret
  exact ⟨rfl, rfl⟩
theorem ints_apd (xs ys : List Int) : ints (xs ++ ys) = ints xs ++ ints ys := List.map_append
theorem nats_get {ns : List Nat} {k j : Nat} (h : ns[k]? = some j) : (nats ns)[k]? = some (j : Int) := by simp [nats, h]
theorem nats_in {ns : List Nat} {n : Nat} (h : ∀ j ∈ ns, j < n) : allIn (nats ns) 0 ((n : Int) - 1) = true := allIn_true.2 fun x hx => by
  obtain ⟨j, hj, rfl⟩ := List.mem_map.1 hx
  have := h j hj
  simp only [Int.ofNat_eq_natCast]
  omega
theorem getD_some {xss : List (List Int)} {j : Nat} {a : List Int} (h : xss[j]? = some a) : xss.getD j [] = a := by simp [h]
set_option maxHeartbeats 4000000 in
theorem EncodeWith_any (w : World) (A : Option Addr) (n c : Nat) (xss : List (List Int)) (hr : RdLc w A n xss) (hC : Code xss) (A2 : Option Addr) (m c2 : Nat) (ns : List Nat) (hr2 : Rd w A2 m (ints (nats ns))) (hm : m ≤ 8) (hns : ∀ j ∈ ns, j < n) :
    Calls Try.prog 17 #[.slice A n c, .slice A2 m c2] w (RetSI w 2 (ints (encW xss ns)) 0) := by
  have HL : Hid (xss.length = n) := Lib.hid hr.len
  have HM : Hid (ns.length = m) := Lib.hid (by have := hr2.1; simpa [nats] using this)
  have hn4 : n ≤ 4 := by have := hC.few; rw [HL.out] at this; exact this
  have HC := Lib.hid hC; clear hC
  have HIN := Lib.hid (nats_in hns)
  have HNS := Lib.hid hns; clear hns
  have hw : IntKind.i64.wrap ((n : Int) - 1) = (n : Int) - 1 := IntWalk.i64_in _ (by omega)
  go_enter Try.func17, Try.ntmps17
  go_wp2_with fail
  refine (areWords_any _ _ _ _ _ hr (by omega) HC.out).mono ?_
  rintro e w' ⟨rfl, rfl⟩
  go_wp2_with fail
  refine (isPrefixCode_any _ _ _ _ _ hr HC.out).mono ?_
  rintro e w1 ⟨rfl, hb1⟩
  go_wp2_with fail
  refine (sizeLL_any _ _ _ _ (by omega)).mono ?_
  rintro e w' ⟨rfl, rfl⟩
  go_wp2_with fail
  refine (allWithin_any _ _ _ _ (nats ns) (hr2.below hb1 (Nat.le_refl _)) (by omega) _ _).mono ?_
  rw [HIN.out]
  rintro e w' ⟨rfl, rfl⟩
  have hown := own_base (own_lit w1 #[] 0 2 rfl (by omega)) hb1.size
  have hbA := hb1.alloc (o := .cells #[] 2) hb1.size
  have HOW := Lib.hid hown; have HBA := Lib.hid hbA
  clear hown hbA
  go_wp2_with fail
  go_loopw [6, 27] (fun v q wr => ∃ (k : Nat) (A1 : Option Addr) (n1 c1 : Nat), k ≤ m ∧ q = .int .i64 k ∧ v = .slice A1 n1 c1 ∧ n1 ≤ 5 * k ∧ wr.ownsRow w.heap.size 2 1 (.slice A1 n1 c1) n1 (ints (encW xss (ns.take k))) ∧ Below w.heap.size w wr) (fun _ q _ => m - (intOf q).toNat)
  case atStart => exact ⟨0, _, 0, 0, Nat.zero_le _, rfl, rfl, by omega, HOW.out, HBA.out⟩
  case round =>
    obtain ⟨k, A1, n1, c1, hk, rfl, rfl, hn1, ho, hb⟩ := hrel
    by_cases h1 : k < m
    · obtain ⟨j, hj⟩ := get_some (xs := ns) (k := k) (by rw [HM.out]; omega)
      have hjn := HNS.out j (List.mem_of_getElem? hj)
      obtain ⟨a, ha⟩ := get_some (xs := xss) (k := j) (by rw [HL.out]; omega)
      obtain ⟨b, off, A3, n3, c3, rfl, hbs, hc, hcc, hn3, hr3⟩ := hr.at_ ha
      obtain ⟨b2, off2, rfl, hbs2, hcj⟩ := hr2.at_ (ints_get (nats_get hj))
      have hc1 := (hb.cell (p := ⟨b, off + j, none⟩) hbs).trans hc
      have hcj1 := (hb.cell (p := ⟨b2, off2 + k, none⟩) hbs2).trans hcj
      have h35 : n3 ≤ 5 := by have h2 := HC.out.short a (List.mem_of_getElem? ha); have h3 := hr3.1; simp at h3; omega
      have HE : Hid (encW xss (ns.take (k + 1)) = encW xss (ns.take k) ++ a) := Lib.hid (by rw [List.take_add_one, hj]; show encW xss (ns.take k ++ [j]) = _; rw [enc_snoc, getD_some ha])
      have hi0 : (0 : Int) ≤ (j : Int) := by omega
      have hi1 : (j : Int) < (n : Int) := by omega
      have hr31 := hr3.below hb (Nat.le_refl _)
      clear hj ha hc hcj
      have hlen : ¬ (400 : Int) < ((n1 + n3 : Nat) : Int) := by omega
      go_wp2_with (at_builtin; go_must (refine wpList_appS Try.eltI rfl _ _ rfl wr w.heap.size _ n1 _ (by rfl) ho A3 n3 c3 (ints a) (by rfl) hr31 ints_one (by exact hb.size) (by omega) ?_); rintro A5 c5 w5 ho5 hb5)
      have HO5 := Lib.hid ho5; clear ho5
      go_wp2_with fail
      go_roundw
      case rel => exact ⟨k + 1, A5, n1 + n3, c5, by omega, by go_num, rfl, by omega, by rw [HE.out, ints_apd]; exact HO5.out, hb.trans hb5⟩
      case measure => simp [intOf]; omega
    · have HE : Hid (ns.take k = ns) := Lib.hid (List.take_of_length_le (by rw [HM.out]; omega))
      have HO := Lib.hid ho; clear ho
      go_wp2_with fail
      go_ret2
      exact ⟨A1, n1, c1, rfl, by rw [← HE.out]; exact HO.out, hb⟩
set_option maxHeartbeats 400000 in
theorem decode1_any (w : World) (A A' : Option Addr) (n c n' c' g T : Nat) (xs ys : List Int) (hg : w.heap[g]? = some (.cells #[.slice A n c] T (0, 0))) (hr : Rd w A n (ints xs)) (hr' : Rd w A' n' (ints ys)) (hn : n ≤ 1000000000) (hn' : n' ≤ 1000000000) (hc : n ≤ c) :
    Calls Try.prog 96 #[.slice A' n' c', .pointer (some ⟨g, 0, none⟩)] w (RetV w (.bool (bgn xs ys))) := by
  have q0 := blk_cell hg 0 rfl
  go_enter Try.func96, Try.ntmps96
  go_wp2_with (go_at_call 97; refine (begins_any _ _ _ _ _ _ _ xs ys hr hr' hn hn' hc).mono ?_; rintro e w1 ⟨rfl, hb1⟩)
  go_ret
  exact ⟨rfl, hb1⟩
set_option maxHeartbeats 1000000 in
theorem indexDW (w : World) (A : Option Addr) (n c : Nat) (xss : List (List Int)) (hr : RdLc w A n xss) (hC : Code xss) (A2 : Option Addr) (m c2 g T : Nat) (a r : List Int) (hg : w.heap[g]? = some (.cells #[.slice A2 m c2] T (0, 0))) (hr2 : Rd w A2 m (ints (a ++ r))) (hm : m ≤ 1000) (hc2 : m ≤ c2) (j : Nat) (hj : xss[j]? = some a) :
    Calls Try.prog 95 #[.slice A n c, .func (.func 96) #[] #[.pointer (some ⟨g, 0, none⟩)]] w (RetV w (.int .i64 j)) := by
  have HL : Hid (xss.length = n) := Lib.hid (hr.len)
  have HC := Lib.hid hC; clear hC
  have HJ := Lib.hid hj; clear hj
  have hn4 : n ≤ 4 := by have := HC.out.few; rw [HL.out] at this; exact this
  have hjn : j < n := by have := (List.getElem?_eq_some_iff.1 HJ.out).1; rw [HL.out] at this; exact this
  go_enter Try.func95, Try.ntmps95
  go_wp2_with fail
  go_loopw [8] (fun q wr => ∃ k : Nat, k ≤ j ∧ q = .int .i64 k ∧ Below w.heap.size w wr) (fun q _ => n - (intOf q).toNat)
  case atStart => exact ⟨0, Nat.zero_le _, rfl, Below.refl _ _⟩
  case round =>
    obtain ⟨k, hk, rfl, hb⟩ := hrel
    obtain ⟨x, hx⟩ := get_some (xs := xss) (k := k) (by rw [HL.out]; omega)
    obtain ⟨b, off, A', n', c', rfl, hbs, hc, hcc, hn', hr'⟩ := hr.at_ hx
    have hc1 := (hb.cell (p := ⟨b, off + k, none⟩) hbs).trans hc
    have hkn : k < n := by omega
    have HBB := Lib.hid hb
    have HG := Lib.hid (blk_bel hg hb)
    by_cases hkj : k = j
    · subst hkj
      have HT : Hid (bgn (a ++ r) x = true) := Lib.hid (by rw [HJ.out] at hx; injection hx with hx; subst hx; exact bgn_true.2 ⟨r, rfl⟩)
      clear hx hb
      go_wp2_with (go_at_call 96; refine (decode1_any _ _ _ _ _ _ _ _ _ (a ++ r) x HG.out (hr2.below HBB.out (Nat.le_refl _)) (hr'.below HBB.out (Nat.le_refl _)) (by omega) (by omega) hc2).mono ?_; rw [HT.out]; rintro e w5 ⟨rfl, hb5⟩)
      go_ret
      exact ⟨rfl, HBB.out.trans (hb5.mono HBB.out.size)⟩
    · have HT : Hid (bgn (a ++ r) x = false) := Lib.hid (pc_first HC.out.pc HJ.out hx hkj)
      clear hx hb
      go_wp2_with (go_at_call 96; refine (decode1_any _ _ _ _ _ _ _ _ _ (a ++ r) x HG.out (hr2.below HBB.out (Nat.le_refl _)) (hr'.below HBB.out (Nat.le_refl _)) (by omega) (by omega) hc2).mono ?_; rw [HT.out]; rintro e w5 ⟨rfl, hb5⟩)
      go_roundw
      case rel => exact ⟨k + 1, by omega, by go_num, HBB.out.trans (hb5.mono HBB.out.size)⟩
      case measure => simp [intOf]; omega
end Go.Proofs.Ytbecofpklndpaaa
