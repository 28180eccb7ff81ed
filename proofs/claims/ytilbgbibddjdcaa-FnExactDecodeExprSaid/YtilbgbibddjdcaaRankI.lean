/- RankTree and treeAt: the program's functions. -/
import Derived.Test.YtilbgbibddjdcaaRankC
import Derived.Test.YtilbgbibddjdcaaTreeV
import Derived.Test.YtilbgbibddjdcaaTagM
import Derived.IntWalk
namespace Go.Proofs.Ytilbgbibddjdcaa
open Go.RowKit
set_option linter.unusedVariables false
set_option linter.unusedSimpArgs false
theorem Tr.nodes_odd : ∀ t : Tr, t.nodes % 2 = 1
  | .nil => rfl
  | .node h t => by have := h.nodes_odd; have := t.nodes_odd; simp only [Tr.nodes]; omega
theorem isTr_odd {bs : List Bool} (h : isTr bs = true) : bs.length % 2 = 1 := by
  obtain ⟨t, rfl, _⟩ := isTr_tree h
  rw [t.bits_len]; exact t.nodes_odd
theorem rank_not {bs : List Bool} (h : isTr bs = false) : rankI bs = 0 ∧ rankC bs = 1 := by simp [rankI, rankC, h]
theorem rank_long {bs : List Bool} (h : isTr bs = true) (hl : 60 < bs.length) : rankI bs = 0 ∧ rankC bs = 5 := by
  constructor
  · unfold rankI; rw [if_neg]; omega
  · unfold rankC; rw [if_pos h, if_neg]; omega
theorem rank_big {bs : List Bool} (h : isTr bs = true) (hb : 1000000000000 < rankN bs) : rankI bs = 0 ∧ rankC bs = 5 := by
  constructor
  · unfold rankI; rw [if_neg]; omega
  · unfold rankC; rw [if_pos h, if_neg]; omega
theorem rank_ok {bs : List Bool} (h : isTr bs = true) (hl : bs.length ≤ 60) (hb : rankN bs ≤ 1000000000000) : rankI bs = (rankN bs : Int) ∧ rankC bs = 0 := by
  constructor
  · unfold rankI; rw [if_pos ⟨h, hl, hb⟩]
  · unfold rankC; rw [if_pos h, if_pos ⟨hl, hb⟩]
def RkPost (w : World) (bs : List Bool) (e : Ending) (w' : World) : Prop := e = .returned (.tuple #[.int .i64 (rankI bs), .int .i64 (rankC bs)]) ∧ Below w.heap.size w w'
set_option maxHeartbeats 4000000 in
set_option maxRecDepth 100000 in
theorem implRankTree_any (w : World) (A : Option Addr) (n c : Nat) (bs : List Bool) (hr : Rd w A n (bools bs)) (hn : n ≤ 1099511627776) : Calls Try.prog 16 #[.slice A n c] w (RkPost w bs) := by
  have HL : Hid (bs.length = n) := Lib.hid (by simpa using hr.1)
  cases ht : isTr bs with
  | false =>
    have HQ := Lib.hid (rank_not ht)
    have HT := Lib.hid ht
    clear ht
    go_enter Try.func16, Try.ntmps16
    go_wp2_with (go_at_call 22; go_must (refine (IsTree_any _ _ _ _ _ hr hn).mono ?_; rw [HT.out]; rintro e w' ⟨rfl, rfl⟩))
    go_ret2
    exact ⟨by rw [HQ.out.1, HQ.out.2]; rfl, Below.refl _ _⟩
  | true =>
    have HT := Lib.hid ht
    by_cases hl : 60 < n
    · have HQ := Lib.hid (rank_long ht (by rw [HL.out]; exact hl))
      have hl' : (61 : Int) ≤ (n : Int) := by omega
      clear ht
      go_enter Try.func16, Try.ntmps16
      go_wp2_with (go_at_call 22; go_must (refine (IsTree_any _ _ _ _ _ hr hn).mono ?_; rw [HT.out]; rintro e w' ⟨rfl, rfl⟩))
      go_ret2
      exact ⟨by rw [HQ.out.1, HQ.out.2]; rfl, Below.refl _ _⟩
    · have hodd := isTr_odd ht
      rw [HL.out] at hodd
      have HSC := Lib.hid (isTr_scan ht)
      have hn60 : n ≤ 60 := by omega
      have hm0 := memo_first w
      have hmm := @run_makeMap Try.prog
      clear ht hl
      go_enter Try.func16, Try.ntmps16
      go_wp2_with (go_at_call 22; go_must (refine (IsTree_any _ _ _ _ _ hr hn).mono ?_; rw [HT.out]; rintro e w' ⟨rfl, rfl⟩))
      go_loopw [5, 6] (fun q i wr => ∃ k : Nat, k ≤ n ∧ k % 2 = 1 ∧ i = .int .i64 k ∧ q = .int .i64 (rkBase k) ∧ MemoOk wr w.heap.size ∧ Below w.heap.size w wr) (fun _ i _ => n + 1 - (intOf i).toNat)
      case atStart => exact ⟨1, by omega, by omega, rfl, by rw [base1]; rfl, hm0, below_new _ _⟩
      case round =>
        obtain ⟨k, hk, hko, rfl, rfl, hm, hb⟩ := hrel
        clear hmm hm0
        have hbk := rkBase_le k
        by_cases hlt : k < n
        · have hb2 : ((k : Int) < (n : Int)) := by omega
          have HS := Lib.hid (rkBase_two k hko)
          have hle := cnt_le k 1
          have hkb : rkBase k ≤ 61000000000061 := by omega
          go_wp2_with (first
            | (go_at_call 60; go_must (refine (sizeB_any _ _ _ _).mono ?_; rintro e w' ⟨rfl, rfl⟩))
            | (go_at_call 61; go_must (refine (count_any _ _ hm k 1 (by omega) _ _ (by omega) (by omega)).mono ?_; rintro e w2 ⟨rfl, hm2, hc2⟩)))
          go_roundw
          case rel => exact ⟨k + 2, by omega, by omega, by go_num, by rw [HS.out]; go_num, hm2, below_ch hb hc2 (by intro z hz; omega) hb.size⟩
          case measure => simp [intOf]; omega
        · obtain rfl : k = n := by omega
          go_wp2_with (go_at_call 60; go_must (refine (sizeB_any _ _ _ _).mono ?_; rintro e w' ⟨rfl, rfl⟩))
          have hN : rankN bs ≤ 122000000000122 := by
            have h1 := rkBase_le bs.length
            have h2 := rkFrom_le bs 1
            rw [HL.out] at h1 h2
            unfold rankN
            rw [HL.out]
            omega
          clear hbk hlt
          go_loopw [5, 7, 31] (fun q p j wr => ∃ i o r : Nat, i ≤ k ∧ o ≤ i + 1 ∧ j = .int .i64 i ∧ p = .int .i64 o ∧ q = .int .i64 r ∧ Hid (o = needAt bs i) ∧ Hid (r + rkFrom (bs.drop i) o = rankN bs) ∧ r ≤ 122000000000122 ∧ MemoOk wr w.heap.size ∧ Below w.heap.size w wr) (fun _ _ j _ => k - (intOf j).toNat)
          case atStart => exact ⟨0, 1, rkBase k, by omega, by omega, rfl, rfl, rfl, Lib.hid rfl, Lib.hid (by rw [rankN, HL.out, List.drop_zero]), by have := rkBase_le k; omega, hm, hb⟩
          case round =>
            clear hm hb
            obtain ⟨i, o, r, hi, ho, rfl, rfl, rfl, HO, HR, hr2, hm, hb⟩ := hrel
            by_cases hlt : i < k
            · obtain ⟨b, hbk⟩ := get_some (xs := bs) (k := i) (by rw [HL.out]; exact hlt)
              obtain ⟨blk, off, rfl, hbs, hc⟩ := hr.at_ (k := i) (u := .bool b) (by simp [hbk])
              have hc1 := (hb.cell (p := ⟨blk, off + i, none⟩) hbs).trans hc
              have hop : 0 < o := by rw [HO.out]; exact need_pos HSC.out (by rw [HL.out]; exact hlt)
              clear hc
              cases b
              · have HG := Lib.hid (rk_false (o := o) hbk)
                have HN := Lib.hid (need_false hbk)
                clear hbk
                go_wp2_with (go_at_call 60; go_must (refine (sizeB_any _ _ _ _).mono ?_; rintro e w' ⟨rfl, rfl⟩))
                go_roundw
                case rel => exact ⟨i + 1, o - 1, r, by omega, by omega, by go_num, by rw [show ((o : Int) - 1) = ((o - 1 : Nat) : Int) by omega], rfl, Lib.hid (by rw [HN.out, HO.out]), Lib.hid (by rw [← HG.out]; exact HR.out), hr2, hm, hb⟩
                case measure => simp [intOf]; omega
              · have HG := Lib.hid (rk_true (o := o) hbk)
                have HN := Lib.hid (need_true hbk)
                have hle := cnt_le (k - i - 1) (o - 1)
                have HH : Hid (r + cnt (k - i - 1) (o - 1) + rkFrom (bs.drop (i + 1)) (o + 1) = rankN bs) := Lib.hid (by
                  have h1 := HR.out
                  rw [HG.out, HL.out] at h1
                  omega)
                have hrr : r + cnt (k - i - 1) (o - 1) ≤ 122000000000122 := by have := HH.out; omega
                clear hbk
                go_wp2_with (first
                  | (go_at_call 60; go_must (refine (sizeB_any _ _ _ _).mono ?_; rintro e w' ⟨rfl, rfl⟩))
                  | (go_at_call 61; go_must (refine (count_any _ _ hm (k - i - 1) (o - 1) (by omega) _ _ (by omega) (by omega)).mono ?_; rintro e w2 ⟨rfl, hm2, hc2⟩)))
                go_roundw
                case rel => exact ⟨i + 1, o + 1, _, by omega, by omega, by go_num, by go_num, by go_num, Lib.hid (by rw [HN.out, HO.out]), HH, hrr, hm2, below_ch hb hc2 (by intro z hz; omega) hb.size⟩
                case measure => simp [intOf]; omega
            · obtain rfl : i = k := by omega
              have HE : Hid (r = rankN bs) := Lib.hid (by
                have h1 := HR.out
                rw [List.drop_of_length_le (by rw [HL.out]; omega)] at h1
                simpa [rkFrom] using h1)
              by_cases hbig : 1000000000000 < r
              · have HQ := Lib.hid (rank_big HT.out (by rw [← HE.out]; exact hbig))
                go_wp2_with fail
                go_ret2
                exact ⟨by rw [HQ.out.1, HQ.out.2]; rfl, hb⟩
              · have HQ := Lib.hid (rank_ok HT.out (by rw [HL.out]; omega) (by rw [← HE.out]; omega))
                go_wp2_with fail
                go_ret2
                exact ⟨by rw [HQ.out.1, HQ.out.2, ← HE.out]; rfl, hb⟩
end Go.Proofs.Ytilbgbibddjdcaa
