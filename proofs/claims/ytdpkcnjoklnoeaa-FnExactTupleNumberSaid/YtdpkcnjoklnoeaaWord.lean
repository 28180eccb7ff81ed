/- The number of a word: the reference's function and the program's give the same list and code. -/
import Derived.Test.YtdpkcnjoklnoeaaSmallN
namespace Go.Proofs.Ytdpkcnjoklnoeaa
open Go.RowKit Limb

/-- The number of a word, letter by letter; none as soon as it has more than 40 limbs. -/
def wordGo (L : Int) : List Int → Nat → Option Nat
  | [], n => some n
  | x :: xs, n => if 40 < (limbs (n * L.toNat + (x + 1).toNat)).length then none else wordGo L xs (n * L.toNat + (x + 1).toNat)
def wordNum (xs : List Int) (L : Int) : List Int × Int :=
  if inB L 1 10 = true ∧ wordB xs L = true then (match wordGo L xs 0 with | some n => (limbs n, 0) | none => ([], 5)) else ([], 2)
theorem wordNum_ok {xs : List Int} {L : Int} (h1 : inB L 1 10 = true) (h2 : wordB xs L = true) {n : Nat} (h : wordGo L xs 0 = some n) : wordNum xs L = (limbs n, 0) := by simp [wordNum, h1, h2, h]
theorem wordNum_full {xs : List Int} {L : Int} (h1 : inB L 1 10 = true) (h2 : wordB xs L = true) (h : wordGo L xs 0 = none) : wordNum xs L = ([], 5) := by simp [wordNum, h1, h2, h]
theorem wordNum_range {xs : List Int} {L : Int} (h : ¬ (inB L 1 10 = true ∧ wordB xs L = true)) : wordNum xs L = ([], 2) := by simp only [wordNum, if_neg h]

set_option maxHeartbeats 1000000 in
theorem specWordNumber_any (w : World) (A : Option Addr) (n c : Nat) (xs : List Int) (hr : Rd w A n (ints xs)) (hn : n ≤ 1099511627776) (L : Int) :
    Calls Try.prog 15 #[.slice A n c, .int .i64 L] w (RetSI w 2 (ints (wordNum xs L).1) (wordNum xs L).2) := by
  by_cases hL : inB L 1 10 = true
  · have hL' := inB_true.1 hL
    by_cases hW : wordB xs L = true
    · have hall : ∀ x ∈ xs, 0 ≤ x ∧ x ≤ L - 1 := by
        simp only [wordB, Bool.and_eq_true] at hW; exact allIn_true.1 hW.2
      have hlen : xs.length = n := by simpa using hr.1
      have hn4 : n ≤ 400 := by simp only [wordB, Bool.and_eq_true, decide_eq_true_eq] at hW; omega
      have HL := Lib.hid hlen; have HALL := Lib.hid hall; clear hlen hall
      have hL0 := hL'.1
      have hL1 := hL'.2
      have HF1 := Lib.hid (fun m => wordNum_ok (n := m) hL hW); have HF2 := Lib.hid (wordNum_full hL hW)
      clear hL'
      go_enter Try.func15, Try.ntmps15
      go_wp2_with (first
        | (go_at_call 48; refine (l00In_any _ _ _ _).mono ?_; rintro e w' ⟨rfl, rfl⟩)
        | (go_at_call 49; refine (l04Word_any _ _ _ _ _ hr hn _ hL0 hL1).mono ?_; rintro e w' ⟨rfl, rfl⟩))
      clear hL hW
      go_loopw [6, 7] (fun v i wr => ∃ (k N m : Nat), i = .int .i64 k ∧ k ≤ n ∧ m ≤ 40 ∧ Hid (wordGo L xs 0 = wordGo L (xs.drop k) N) ∧ wr.ownsRow w.heap.size 2 1 v m (ints (limbs N)) ∧ Below w.heap.size w wr) (fun _ i _ => n - (intOf i).toNat)
      case atStart => exact ⟨0, 0, 0, rfl, by omega, by omega, Lib.hid rfl, own_zero w _, below_new _ _⟩
      case round =>
        obtain ⟨k, N, m, rfl, hk, hm, hgo, hown, hb⟩ := hrel
        obtain ⟨Ao, co, rfl, hco, _⟩ := own_form hown
        by_cases h1 : k < n
        · obtain ⟨x, hx⟩ := get_some (xs := xs) (k := k) (by rw [HL.out]; omega)
          have hxb : 0 ≤ x ∧ x ≤ L - 1 := by obtain ⟨hk', rfl⟩ := List.getElem?_eq_some_iff.1 hx; exact HALL.out _ (List.getElem_mem hk')
          obtain ⟨hx0, hx1⟩ := hxb
          obtain ⟨b, off, rfl, hbk, hcx⟩ := hr.at_ (ints_get hx)
          have hcx1 := (hb.cell (p := ⟨b, off + k, none⟩) hbk).trans hcx
          have HX := Lib.hid hx
          have HB := Lib.hid hb
          have HO := Lib.hid hown
          clear hx hcx hb hown
          have q1 : IntKind.i64.wrap (x + 1) = x + 1 := IntWalk.i64_in _ (by omega)
          have hbr : b < wr.heap.size := Nat.lt_of_lt_of_le hbk HB.out.size
          go_wp2_with fail
          go_region_held3 (fun w' => w'.cell? ⟨b, off + k, none⟩ = some (.int .i64 x)) (assumption)
            (first
              | (go_at_call 52; refine (l02Of_any _ _ (by omega)).mono ?_; rintro e w1 ⟨A1, n1, c1, rfl, ho1, hb1⟩; (try replace hb1 := below_undrew hb1); have hcx1 := (hb1.cell (p := ⟨b, off + k, none⟩) hbr).trans hcx1; have hbr := Nat.lt_of_lt_of_le hbr hb1.size)
              | (go_at_call 51; refine (l02Mul_limbs _ _ _ _ N ((own_rd HO.out).below hb1 (Nat.le_refl _)) (by omega) _ _ _ L.toNat (own_rd ho1) (by have := own_small ho1 (by omega); omega)).mono ?_; rintro e w2 ⟨A2, n2, c2, rfl, ho2, hb2⟩; have hcx1 := (hb2.cell (p := ⟨b, off + k, none⟩) hbr).trans hcx1; have hbr := Nat.lt_of_lt_of_le hbr hb2.size; have hl2 := own_mul_len ho2 HO.out ho1; have hl1 := own_small ho1 (by omega); have HBB := Lib.hid (hb1.trans (hb2.mono hb1.size)))
              | (go_at_call 50; refine (l02Add_limbs _ _ _ _ (N * L.toNat) ((own_rd ho2).below hb1 (Nat.le_refl _)) (by omega) _ _ _ (x + 1).toNat (own_rd ho1) (by have := own_small ho1 (by omega); omega)).mono ?_; rintro e w3 ⟨A3, n3, c3, rfl, ho3, hb3⟩; have hcx1 := (hb3.cell (p := ⟨b, off + k, none⟩) hbr).trans hcx1; have HB3 := Lib.hid (HBB.out.trans ((hb1.trans (hb3.mono hb1.size)).mono HBB.out.size))))
          have hgo2 : wordGo L (xs.drop k) N = if 40 < n3 then none else wordGo L (xs.drop (k + 1)) (N * L.toNat + (x + 1).toNat) := by
            rw [drop_get HX.out, wordGo, own_limb_len ho3]
          have HG := Lib.hid (hgo.out.trans hgo2)
          have hB3 := HB3.out
          have HBF : Hid (Below w.heap.size w w3) := Lib.hid (HB.out.trans (hB3.mono HB.out.size))
          have HO3 := Lib.hid (own_base ho3 (Nat.le_trans HB.out.size (Nat.le_trans HBB.out.size hb1.size)))
          clear hgo2 hB3
          by_cases h40 : 40 < n3
          · go_wp2_with fail
            go_ret2
            rw [HF2.out (by rw [HG.out, if_pos h40])]
            exact ⟨none, 0, 0, rfl, own_nil _ _ _, HBF.out⟩
          · go_wp2_with fail
            go_roundw
            case rel => exact ⟨k + 1, N * L.toNat + (x + 1).toNat, n3, by go_num, by omega, by omega, Lib.hid (by rw [HG.out, if_neg h40]), HO3.out, HBF.out⟩
            case measure => simp [intOf]; omega
        · go_wp2_with fail
          go_ret2
          rw [HF1.out N (by rw [hgo.out, List.drop_of_length_le (by rw [HL.out]; omega), wordGo])]
          exact ⟨Ao, m, co, rfl, hown, hb⟩
    · have hW' : wordB xs L = false := by simpa using hW
      have HF := Lib.hid (wordNum_range (xs := xs) (L := L) (fun h => hW h.2))
      have hL0 := hL'.1
      have hL1 := hL'.2
      clear hW hL'
      go_enter Try.func15, Try.ntmps15
      go_wp2_with (first
        | (go_at_call 48; refine (l00In_any _ _ _ _).mono ?_; rintro e w' ⟨rfl, rfl⟩)
        | (go_at_call 49; refine (l04Word_any _ _ _ _ _ hr hn _ hL0 hL1).mono ?_; rintro e w' ⟨rfl, rfl⟩))
      go_ret2
      rw [HF.out]
      exact ⟨none, 0, 0, rfl, own_nil _ _ _, Below.refl _ _⟩
  · have hL' : inB L 1 10 = false := by simpa using hL
    have HF := Lib.hid (wordNum_range (xs := xs) (L := L) (fun h => hL h.1))
    clear hL
    go_enter Try.func15, Try.ntmps15
    go_wp2_with (first
      | (go_at_call 48; refine (l00In_any _ _ _ _).mono ?_; rintro e w' ⟨rfl, rfl⟩))
    go_ret2
    rw [HF.out]
    exact ⟨none, 0, 0, rfl, own_nil _ _ _, Below.refl _ _⟩

set_option maxHeartbeats 400000 in
theorem lettersOk_any (w : World) (L : Int) : Calls Try.prog 53 #[.int .i64 L] w fun e w' => e = .returned (.bool (inB L 1 10)) ∧ w = w' := by
  go_enter Try.func53, Try.ntmps53
  go_wp2_with (go_at_call 59; refine (within_any _ _ _ _).mono ?_; rintro e w' ⟨rfl, rfl⟩)
  go_ret
  exact ⟨rfl, rfl⟩
theorem limbs_one {x : Int} (h0 : 1 ≤ x) (h1 : x < 1000000) : limbs x.toNat = [x] := by
  rw [limbs_pos (by omega), show x.toNat / 1000000 = 0 by omega, limbs_zero]; congr 1; omega

set_option maxHeartbeats 1000000 in
theorem implWordNumber_any (w : World) (A : Option Addr) (n c : Nat) (xs : List Int) (hr : Rd w A n (ints xs)) (hn : n ≤ 1099511627776) (L : Int) :
    Calls Try.prog 17 #[.slice A n c, .int .i64 L] w (RetSI w 2 (ints (wordNum xs L).1) (wordNum xs L).2) := by
  have hlen : xs.length = n := by simpa using hr.1
  by_cases hL : inB L 1 10 = true
  · have hL' := inB_true.1 hL
    have hL0 := hL'.1
    have hL1 := hL'.2
    clear hL'
    by_cases hn4 : n ≤ 400
    · have b4 : decide ((400 : Int) < (n : Int)) = false := by simp; omega
      by_cases hW : allIn xs 0 (L - 1) = true
      · have hall := allIn_true.1 hW
        have hWB : wordB xs L = true := by simp [wordB, hW, hlen, hn4]
        have HL := Lib.hid hlen; have HALL := Lib.hid hall
        have HF1 := Lib.hid (fun m => wordNum_ok (n := m) hL hWB); have HF2 := Lib.hid (wordNum_full hL hWB)
        clear hlen hall hWB
        go_enter Try.func17, Try.ntmps17
        go_wp2_with (first
          | (go_at_call 53; refine (lettersOk_any _ _).mono ?_; rintro e w' ⟨rfl, rfl⟩)
          | (go_at_call 54; refine (allWithin_any _ _ _ _ _ hr hn _ _).mono ?_; rintro e w' ⟨rfl, rfl⟩))
        clear hL hW
        go_loopw [6, 27] (fun v i wr => ∃ (k N m : Nat), i = .int .i64 k ∧ k ≤ n ∧ m ≤ 40 ∧ Hid (wordGo L xs 0 = wordGo L (xs.drop k) N) ∧ wr.ownsRow w.heap.size 2 1 v m (ints (limbs N)) ∧ Below w.heap.size w wr) (fun _ i _ => n - (intOf i).toNat)
        case atStart => exact ⟨0, 0, 0, rfl, by omega, by omega, Lib.hid rfl, own_zero w _, below_new _ _⟩
        case round =>
          obtain ⟨k, N, m, rfl, hk, hm, hgo, hown, hb⟩ := hrel
          obtain ⟨Ao, co, rfl, hco, _⟩ := own_form hown
          by_cases h1 : k < n
          · obtain ⟨x, hx⟩ := get_some (xs := xs) (k := k) (by rw [HL.out]; omega)
            have hxb : 0 ≤ x ∧ x ≤ L - 1 := by obtain ⟨hk', rfl⟩ := List.getElem?_eq_some_iff.1 hx; exact HALL.out _ (List.getElem_mem hk')
            obtain ⟨hx0, hx1⟩ := hxb
            obtain ⟨b, off, rfl, hbk, hcx⟩ := hr.at_ (ints_get hx)
            have hcx1 := (hb.cell (p := ⟨b, off + k, none⟩) hbk).trans hcx
            have HX := Lib.hid hx
            have HB := Lib.hid hb
            have HO := Lib.hid hown
            have hlit := own_lit wr #[.int .i64 L] 1 2 rfl (by omega)
            have hlit2 : (wr.alloc (.cells #[.int .i64 L] 2)).ownsRow wr.heap.size 2 1 (.slice (some ⟨wr.heap.size, 0, none⟩) 1 1) 1 (ints (limbs L.toNat)) := by rw [limbs_one (by omega) (by omega)]; exact hlit
            have HLT := Lib.hid hlit2
            clear hx hcx hb hown hlit hlit2
            go_wp2_with fail
            refine (multiply_any _ _ _ _ N ((own_rd HO.out).alloc _) (by omega) _ _ _ L.toNat (own_rd HLT.out) (by omega)).mono ?_
            rintro e w1 ⟨A1, n1, c1, rfl, ho1, hb1⟩
            have hl1 : n1 ≤ m + 1 := own_mul_len ho1 HO.out HLT.out
            go_wp2_with fail
            refine (naturalOf_any _ _ (by omega) (by omega)).mono ?_
            rintro e w2 ⟨A2, n2, c2, rfl, ho2, hb2⟩
            have hl2 := own_small ho2 (by omega)
            go_wp2_with fail
            refine (add_any _ _ _ _ (N * L.toNat) ((own_rd ho1).below hb2 (Nat.le_refl _)) (by omega) _ _ _ (x + 1).toNat (own_rd ho2) (by omega)).mono ?_
            rintro e w3 ⟨A3, n3, c3, rfl, ho3, hb3⟩
            have hgo2 : wordGo L (xs.drop k) N = if 40 < n3 then none else wordGo L (xs.drop (k + 1)) (N * L.toNat + (x + 1).toNat) := by
              rw [drop_get HX.out, wordGo, own_limb_len ho3]
            have HG := Lib.hid (hgo.out.trans hgo2)
            have hs0 : wr.heap.size ≤ (wr.alloc (.cells #[.int .i64 L] 2)).heap.size := by simp
            have HB3 := Lib.hid ((((below_new wr (.cells #[.int .i64 L] 2)).trans (hb1.mono hs0)).trans (hb2.mono (Nat.le_trans hs0 hb1.size))).trans (hb3.mono (Nat.le_trans hs0 (Nat.le_trans hb1.size hb2.size))))
            have HBF : Hid (Below w.heap.size w w3) := Lib.hid (HB.out.trans (HB3.out.mono HB.out.size))
            have HO3 := Lib.hid (own_base ho3 (Nat.le_trans HB.out.size (Nat.le_trans hs0 (Nat.le_trans hb1.size hb2.size))))
            clear hgo2 hs0
            by_cases h40 : 40 < n3
            · go_wp2_with fail
              go_ret2
              rw [HF2.out (by rw [HG.out, if_pos h40])]
              exact ⟨none, 0, 0, rfl, own_nil _ _ _, HBF.out⟩
            · go_wp2_with fail
              go_roundw
              case rel => exact ⟨k + 1, N * L.toNat + (x + 1).toNat, n3, by go_num, by omega, by omega, Lib.hid (by rw [HG.out, if_neg h40]), HO3.out, HBF.out⟩
              case measure => simp [intOf]; omega
          · go_wp2_with fail
            go_ret2
            rw [HF1.out N (by rw [hgo.out, List.drop_of_length_le (by rw [HL.out]; omega), wordGo])]
            exact ⟨Ao, m, co, rfl, hown, hb⟩
      · have hW' : allIn xs 0 (L - 1) = false := by simpa using hW
        have HF := Lib.hid (wordNum_range (xs := xs) (L := L) (fun h => by have := h.2; simp [wordB, hW'] at this))
        clear hW hlen
        go_enter Try.func17, Try.ntmps17
        go_wp2_with (first
          | (go_at_call 53; refine (lettersOk_any _ _).mono ?_; rintro e w' ⟨rfl, rfl⟩)
          | (go_at_call 54; refine (allWithin_any _ _ _ _ _ hr hn _ _).mono ?_; rintro e w' ⟨rfl, rfl⟩))
        go_ret2
        rw [HF.out]
        exact ⟨none, 0, 0, rfl, own_nil _ _ _, Below.refl _ _⟩
    · have b4 : decide ((400 : Int) < (n : Int)) = true := by simp; omega
      have HF := Lib.hid (wordNum_range (xs := xs) (L := L) (fun h => by have := h.2; simp [wordB] at this; omega))
      clear hlen
      go_enter Try.func17, Try.ntmps17
      go_wp2_with (first
        | (go_at_call 53; refine (lettersOk_any _ _).mono ?_; rintro e w' ⟨rfl, rfl⟩))
      go_ret2
      rw [HF.out]
      exact ⟨none, 0, 0, rfl, own_nil _ _ _, Below.refl _ _⟩
  · have hL' : inB L 1 10 = false := by simpa using hL
    have HF := Lib.hid (wordNum_range (xs := xs) (L := L) (fun h => hL h.1))
    clear hL hlen
    go_enter Try.func17, Try.ntmps17
    go_wp2_with (first
      | (go_at_call 53; refine (lettersOk_any _ _).mono ?_; rintro e w' ⟨rfl, rfl⟩))
    go_ret2
    rw [HF.out]
    exact ⟨none, 0, 0, rfl, own_nil _ _ _, Below.refl _ _⟩
end Go.Proofs.Ytdpkcnjoklnoeaa
