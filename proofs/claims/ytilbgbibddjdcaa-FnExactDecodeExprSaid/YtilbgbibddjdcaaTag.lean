/- The tree with a rank: the reference's TreeAt and the program's treeAt; the trees of the tags. -/
import Derived.Test.YtilbgbibddjdcaaRankS
namespace Go.Proofs.Ytilbgbibddjdcaa
open Go.RowKit
set_option linter.unusedVariables false
set_option linter.unusedSimpArgs false
theorem AtR.pos {rank n r : Nat} (h : AtR rank n r) : 1 ≤ n ∧ n % 2 = 1 := by
  have h2 := h.2
  constructor
  · rcases Nat.eq_zero_or_pos n with rfl | hp
    · simp [cnt] at h2
    · exact hp
  · rcases Nat.mod_two_eq_zero_or_one n with h0 | h1
    · rw [cnt_par n 1 (by omega)] at h2; omega
    · exact h1
theorem AtR.ge {rank n r m rr : Nat} (h : AtR rank n r) (hm : rank = rkBase m + rr) (hlt : m < n) : cnt m 1 ≤ rr := by
  have h1 := rkBase_mono (a := m + 1) (b := n) hlt
  have h2 := h.1
  simp only [rkBase] at h1
  omega
theorem greedy_f {l o r : Nat} (h : r < cnt l (o - 1)) : greedy (l + 1) o r = false :: greedy l (o - 1) r := by rw [greedy, if_pos h]
theorem greedy_t {l o r : Nat} (h : ¬ r < cnt l (o - 1)) : greedy (l + 1) o r = true :: greedy l (o + 1) (r - cnt l (o - 1)) := by rw [greedy, if_neg h]
theorem greedy_lt {l o r : Nat} (h : r < cnt (l + 1) o) (hn : ¬ r < cnt l (o - 1)) : r - cnt l (o - 1) < cnt l (o + 1) := by
  rcases o with _ | o
  · simp [cnt] at h
  · rw [cnt] at h
    have := Nat.lt_of_lt_of_le h (Nat.min_le_right _ _)
    rw [Nat.add_sub_cancel] at hn ⊢
    show r - cnt l o < cnt l (o + 2)
    omega
theorem cnt_pos_o {l o r : Nat} (h : r < cnt (l + 1) o) : 0 < o := by
  rcases o with _ | o
  · simp [cnt] at h
  · omega
set_option maxHeartbeats 4000000 in
set_option maxRecDepth 100000 in
theorem specTreeAt_any (w : World) (rank n r : Nat) (h : AtR rank n r) (hn : n ≤ 60) (hr : rank ≤ 1000000000000) : Calls Try.prog 156 #[.int .i64 rank] w (RetSI w 4 (bools (greedy n 1 r)) 0) := by
  have HA := Lib.hid h
  have hpos := h.pos.1
  have HIN : Hid (inB (rank : Int) 0 1000000000000 = true) := Lib.hid (inB_true.2 (by omega))
  clear h
  go_enter Try.func156, Try.ntmps156
  go_wp2_with (first
    | (go_at_call 111; go_must (refine (l00In_any _ _ _ _).mono ?_; rw [HIN.out]; rintro e w' ⟨rfl, rfl⟩))
    | (go_at_call 59; go_must (refine (l21Ways_any _).mono ?_; rintro e w1 ⟨A1, c1, g, t, rfl, hT, htt, hb1⟩; have HT1 := Lib.hid hT; have HTT := Lib.hid htt; obtain ⟨G, hA, hG⟩ := hT.outer; have hA0 := (hA (by omega)).1; subst hA0; have HG := Lib.hid hG; clear hT htt hG hA)))
  go_loop [0, 5] (fun q i => ∃ m rr : Nat, 1 ≤ m ∧ m ≤ n ∧ i = .int .i64 m ∧ q = .int .i64 rr ∧ Hid (rank = rkBase m + rr)) (fun _ i => n + 1 - (intOf i).toNat)
  case atStart => exact ⟨1, rank, by omega, by omega, rfl, rfl, Lib.hid (by rw [base1]; omega)⟩
  case round =>
    obtain ⟨m, rr, hm1, hm, rfl, rfl, HR⟩ := hrel
    have hrr : rr ≤ 1000000000000 := by have := HR.out; omega
    have q1 := HG.out 1 (by omega)
    have c1' := HT1.out.cell (r := 1) (c := m) (by omega) (by omega)
    rw [HTT.out 1 m (by omega) (by omega)] at c1'
    have hm91 : (m : Int) < 91 := by omega
    have hle := cnt_le m 1
    by_cases hlt : m < n
    · have hge := HA.out.ge HR.out hlt
      have HS : Hid (rkBase (m + 1) = rkBase m + cnt m 1) := Lib.hid rfl
      have HRR : Hid (rank = rkBase (m + 1) + (rr - cnt m 1)) := Lib.hid (by rw [HS.out]; have := HR.out; omega)
      generalize cnt m 1 = x1 at *
      have hge' : (x1 : Int) ≤ (rr : Int) := by omega
      go_wp2_with fail
      go_round
      case rel => exact ⟨m + 1, rr - x1, by omega, by omega, by go_num, by rw [show ((rr : Int) - (x1 : Int)) = ((rr - x1 : Nat) : Int) by omega], HRR⟩
      case measure => simp [intOf]; omega
    · obtain rfl : m = n := by omega
      have hrlt := HA.out.2
      obtain rfl : rr = r := by have := HA.out.1; have := HR.out; omega
      have HLT := Lib.hid hrlt
      generalize cnt m 1 = x1 at c1' hle hrlt
      have hge' : ¬ (x1 : Int) ≤ (rr : Int) := by omega
      have hlit := own_lit w1 #[] 0 4 rfl (by omega)
      have hbb := below_new w1 (.cells #[] 4)
      go_wp2_with fail
      clear q1 c1' hrlt hge'
      go_loopw [0, 6, 7, 8] (fun q v p j wr => ∃ (i o s : Nat) (P : List Bool) (A : Option Addr) (c : Nat), i ≤ m ∧ o ≤ i + 1 ∧ j = .int .i64 i ∧ p = .int .i64 o ∧ q = .int .i64 s ∧ v = .slice A i c ∧ s ≤ 1000000000000 ∧ Hid (greedy m 1 rr = P ++ greedy (m - i) o s) ∧ Hid (s < cnt (m - i) o) ∧ wr.ownsRow w1.heap.size 4 1 (.slice A i c) i (bools P) ∧ Below w1.heap.size w1 wr) (fun _ _ _ j _ => m - (intOf j).toNat)
      case atStart => exact ⟨0, 1, rr, [], _, _, by omega, by omega, rfl, rfl, rfl, rfl, hrr, Lib.hid (by simp), Lib.hid (by simpa using HLT.out), hlit, hbb⟩
      case round =>
        clear hlit hbb
        obtain ⟨i, o, s, P, A, c, hi, ho, rfl, rfl, rfl, rfl, hs, HP, HL, hown, hb⟩ := hrel
        by_cases hlt : i < m
        · have hil : m - i = (m - 1 - i) + 1 := by omega
          have HL2 : Hid (s < cnt (m - 1 - i + 1) o) := Lib.hid (by rw [← hil]; exact HL.out)
          have HP2 : Hid (greedy m 1 rr = P ++ greedy (m - 1 - i + 1) o s) := Lib.hid (by rw [← hil]; exact HP.out)
          have hop := cnt_pos_o HL2.out
          have hT := HT1.out.below hb
          have q1 := (hb.cell (p := ⟨G, o - 1, none⟩) (by obtain ⟨G', hA', _⟩ := HT1.out.outer; have := hA' (by omega); have e := this.1; simp at e; subst e; exact this.2)).trans (HG.out (o - 1) (by omega))
          have c1' := hT.cell (r := o - 1) (c := m - 1 - i) (by omega) (by omega)
          rw [HTT.out (o - 1) (m - 1 - i) (by omega) (by omega)] at c1'
          have hle2 := cnt_le (m - 1 - i) (o - 1)
          have e1 : (o : Int) - 1 = ((o - 1 : Nat) : Int) := by omega
          have e2 : (m : Int) - 1 - (i : Int) = ((m - 1 - i : Nat) : Int) := by omega
          have i1 : ((o - 1 : Nat) : Int) < 91 := by omega
          have i2 : ((m - 1 - i : Nat) : Int) < 91 := by omega
          have i3 : o - 1 < 91 := by omega
          have i4 : m - 1 - i < 91 := by omega
          have HT := Lib.hid hT
          clear hT hil
          by_cases hf : s < cnt (m - 1 - i) (o - 1)
          · have HG1 := Lib.hid (greedy_f hf)
            have HF := Lib.hid hf
            have hf' : (s : Int) < ((cnt (m - 1 - i) (o - 1) : Nat) : Int) := by omega
            generalize hz : cnt (m - 1 - i) (o - 1) = x2 at *
            have HZ := Lib.hid hz
            clear hz hf
            go_wp2_with (at_builtin; go_must (refine wpList_app1g eltB rfl _ _ rfl wr w1.heap.size _ i _ (by rfl) hown _ (by rfl) (by rfl) hb.size (by omega) ?_; rintro A3 c3 w3 hown3 hb3 hg3))
            go_roundw
            case rel => exact ⟨i + 1, o - 1, s, P ++ [false], A3, c3, by omega, by omega, by go_num, rfl, rfl, rfl, hs, Lib.hid (by rw [HP2.out, HG1.out, show m - (i + 1) = m - 1 - i by omega]; simp), Lib.hid (by rw [show m - (i + 1) = m - 1 - i by omega, HZ.out]; exact HF.out), by simpa using hown3, hb.trans hb3⟩
            case measure => simp [intOf]; omega
          · have HG1 := Lib.hid (greedy_t hf)
            have HF := Lib.hid (greedy_lt HL2.out hf)
            have hf' : ¬ (s : Int) < ((cnt (m - 1 - i) (o - 1) : Nat) : Int) := by omega
            generalize hz : cnt (m - 1 - i) (o - 1) = x2 at *
            have HZ := Lib.hid hz
            clear hz
            have hf2 : x2 ≤ s := by omega
            clear hf
            go_wp2_with (at_builtin; go_must (refine wpList_app1g eltB rfl _ _ rfl wr w1.heap.size _ i _ (by rfl) hown _ (by rfl) (by rfl) hb.size (by omega) ?_; rintro A3 c3 w3 hown3 hb3 hg3))
            go_roundw
            case rel => exact ⟨i + 1, o + 1, s - x2, P ++ [true], A3, c3, by omega, by omega, by go_num, by go_num, by rw [show ((s : Int) - (x2 : Int)) = ((s - x2 : Nat) : Int) by omega], rfl, by omega, Lib.hid (by rw [HP2.out, HG1.out, show m - (i + 1) = m - 1 - i by omega]; simp), Lib.hid (by rw [show m - (i + 1) = m - 1 - i by omega]; exact HF.out), by simpa using hown3, hb.trans hb3⟩
            case measure => simp [intOf]; omega
        · obtain rfl : i = m := by omega
          go_wp2_with fail
          go_ret2
          refine ⟨A, i, c, rfl, ?_, hb1.trans (hb.mono hb1.size)⟩
          have e : greedy i 1 rr = P := by have := HP.out; rw [Nat.sub_self] at this; simpa [greedy] using this
          rw [e]
          exact own_base hown hb1.size
end Go.Proofs.Ytilbgbibddjdcaa
