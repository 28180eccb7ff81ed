/- TreeOfList: the reference's function. -/
import Derived.Test.YtnfkmcphkecemaaTol2
namespace Go.Proofs.Ytnfkmcphkecemaa
open Go.RowKit

def heads (ts : List Tr) : List Bool := ts.flatMap fun t => true :: t.bits
theorem heads_step {ts : List Tr} {k : Nat} {t : Tr} (h : ts[k]? = some t) : heads (ts.take (k + 1)) = heads (ts.take k) ++ [true] ++ t.bits := by
  rw [List.take_add_one, h]; simp [heads]

set_option maxHeartbeats 1600000 in
theorem l21List_any (w : World) (A : Option Addr) (n c : Nat) (ts : List Tr) (hr : RdB w A n (ts.map Tr.bits)) (hn : n ≤ 100) (hts : ∀ t ∈ ts, t.nodes ≤ 2000) :
    Calls Try.prog 46 #[.slice A n c] w (RetS w 4 (bools (lst ts).bits)) := by
  have HL : Hid (ts.length = n) := Lib.hid (by have := hr.len; simpa using this)
  have HTS := Lib.hid hts
  have hlit := own_lit w #[] 0 4 rfl (by omega)
  clear hts
  go_enter Try.func46, Try.ntmps46
  go_wp2_with fail
  go_loopw [3, 4] (fun v i wr => ∃ k m : Nat, k ≤ n ∧ i = .int .i64 k ∧ m ≤ 2001 * k ∧ wr.ownsRow w.heap.size 4 1 v m (bools (heads (ts.take k))) ∧ Below w.heap.size w wr) (fun _ i _ => n - (intOf i).toNat)
  case atStart => exact ⟨0, 0, Nat.zero_le _, rfl, by omega, by simpa [heads] using hlit, below_new _ _⟩
  case round =>
    obtain ⟨k, m, hk, rfl, hm, hown, hb⟩ := hrel
    clear hlit
    obtain ⟨Ao, co, rfl, hco, hul⟩ := own_form hown
    by_cases hlt : k < n
    · obtain ⟨xs, hx⟩ := get_some (xs := ts.map Tr.bits) (k := k) (by simp; rw [HL.out]; exact hlt)
      obtain ⟨b, off, A', n', c', rfl, hbs, hc, hn', hr'⟩ := hr.at_ hx
      have hc1 := (hb.cell (p := ⟨b, off + k, none⟩) hbs).trans hc
      obtain ⟨t, ht, rfl⟩ : ∃ t, ts[k]? = some t ∧ xs = t.bits := by
        simp only [List.getElem?_map, Option.map_eq_some_iff] at hx
        obtain ⟨t, h1, h2⟩ := hx; exact ⟨t, h1, h2.symm⟩
      have hn'2 : n' ≤ 2000 := by
        have q1 := hr'.1; have q2 := HTS.out t (List.mem_of_getElem? ht)
        simp [Tr.bits_len] at q1; omega
      have HST := Lib.hid (heads_step ht)
      clear hx hc ht
      go_wp2_with (first
        | (at_builtin; refine wpList_app1 eltB rfl _ _ rfl wr w.heap.size _ m _ (by rfl) hown (.bool true) (by rfl) (by rfl) hb.size (by omega) ?_; rintro A2 c2 w2 hown2 hb2; have hc1 := (hb2.cell (p := ⟨b, off + k, none⟩) hbs).trans hc1; have HB2 := Lib.hid (hb.trans hb2))
        | (at_builtin; go_must (refine wpList_appS eltB rfl _ _ rfl w2 w.heap.size _ (m + 1) _ (by rfl) hown2 _ n' c' (bools t.bits) (by rfl) (hr'.below HB2.out (Nat.le_refl _)) (bools_one _) HB2.out.size (by omega) ?_; rintro A3 c3 w3 hown3 hb3)))
      go_roundw
      case rel =>
        refine ⟨k + 1, m + 1 + n', by omega, by go_num, by omega, ?_, HB2.out.trans hb3⟩
        rw [HST.out]
        simpa using hown3
      case measure => simp [intOf]; omega
    · obtain rfl : k = n := by omega
      rw [List.take_of_length_le (by rw [HL.out]; omega)] at hown
      go_wp2_with (at_builtin; go_must (refine wpList_app1 eltB rfl _ _ rfl wr w.heap.size _ m _ (by rfl) hown (.bool false) (by rfl) (by rfl) hb.size (by omega) ?_; rintro A2 c2 w2 hown2 hb2))
      go_ret
      refine ⟨A2, _, c2, rfl, ?_, hb.trans hb2⟩
      rw [lst_bits]
      simpa [heads] using hown2

set_option maxHeartbeats 1600000 in
theorem specTreeOfList_any (w : World) (A : Option Addr) (n c : Nat) (xss : List (List Bool)) (hr : RdB w A n xss) (hn : n ≤ 1000000000) (_hc : n ≤ c) :
    Calls Try.prog 17 #[.slice A n c] w (RetSI w 4 (bools (tolNum xss).1) (tolNum xss).2) := by
  have HL : Hid (xss.length = n) := Lib.hid hr.len
  go_enter Try.func17, Try.ntmps17
  go_wp2_with fail
  go_loopw [4] (fun q wr => ∃ k : Nat, k ≤ n ∧ q = .int .i64 k ∧ Hid (allTr (xss.take k) = true) ∧ wr = w) (fun q _ => n - (intOf q).toNat)
  case atStart => exact ⟨0, Nat.zero_le _, rfl, Lib.hid (by simp [allTr]), rfl⟩
  case round =>
    obtain ⟨k, hk, rfl, hall, rfl⟩ := hrel
    by_cases h1 : k < n
    · obtain ⟨xs, hx⟩ := get_some (xs := xss) (k := k) (by rw [HL.out]; omega)
      obtain ⟨b, off, A', n', c', rfl, hbk, hcx, hn', hr'⟩ := hr.at_ hx
      have HX := Lib.hid hx
      clear hx
      by_cases hin : isTr xs = true
      · go_wp2_with (go_at_call 36; go_must (refine (l21Is_any _ _ _ _ _ hr' (by omega)).mono ?_; rw [hin]; rintro e w' ⟨rfl, rfl⟩))
        go_roundw
        case rel => exact ⟨k + 1, by omega, by go_num, Lib.hid (allTr_take_step hall.out HX.out hin), by trivial⟩
        case measure => simp [intOf]; omega
      · have hin' : isTr xs = false := by simpa using hin
        have HF := Lib.hid (tol_bad (allTr_out HX.out hin'))
        clear hin
        go_wp2_with (go_at_call 36; go_must (refine (l21Is_any _ _ _ _ _ hr' (by omega)).mono ?_; rw [hin']; rintro e w' ⟨rfl, rfl⟩))
        go_ret2
        rw [HF.out]
        exact ⟨none, 0, 0, rfl, own_nil _ _ _, Below.refl _ _⟩
    · obtain rfl : k = n := by omega
      have ha := hall.out
      rw [List.take_of_length_le (by rw [HL.out]; omega)] at ha
      by_cases h2 : k ≤ 100
      · obtain ⟨ts, rfl, hts⟩ := allTr_trees ha
        have HLT : Hid (ts.length = k) := Lib.hid (by have := HL.out; simpa using this)
        have HF := Lib.hid (tol_ok ha (by rw [HLT.out]; exact h2))
        have HTS := Lib.hid hts
        clear hts ha
        go_wp2_with fail
        refine (l21List_any _ _ _ _ ts hr h2 HTS.out).mono ?_
        rintro e w2 ⟨A2, n2, c2, rfl, ho2, hb2⟩
        go_wp2_with fail
        refine (l21Fits_any _ _ _ _ _ _ ho2).mono ?_
        rw [← HF.out]
        rintro e w3 ⟨⟨A3, n3, c3, rfl, ho3⟩, rfl⟩
        go_wp2_with fail
        go_ret2
        exact ⟨A3, n3, c3, rfl, ho3, hb2⟩
      · have HF := Lib.hid (tol_range ha (by rw [HL.out]; exact h2))
        clear ha
        go_wp2_with fail
        go_ret2
        rw [HF.out]
        exact ⟨none, 0, 0, rfl, own_nil _ _ _, Below.refl _ _⟩
end Go.Proofs.Ytnfkmcphkecemaa
