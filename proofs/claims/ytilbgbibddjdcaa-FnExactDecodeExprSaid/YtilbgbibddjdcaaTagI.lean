/- The program's treeAt, and the trees of the tags on both sides. -/
import Derived.Test.YtilbgbibddjdcaaTag
namespace Go.Proofs.Ytilbgbibddjdcaa
open Go.RowKit
set_option linter.unusedVariables false
set_option linter.unusedSimpArgs false
theorem memo_row {w w' : World} {B base e n : Nat} {v : Value} {vs : List Value} (h : MemoOk w B) (ho : w.ownsRow base e 1 v n vs) (hB : B < base) (hg : w.grownBy w' v.ownBlock) : MemoOk w' B :=
  h.kept hg (fun e1 => by have := (ho.lt B e1.symm).1; omega)
set_option maxHeartbeats 4000000 in
set_option maxRecDepth 100000 in
theorem treeAt_any (w : World) (rank n r : Nat) (h : AtR rank n r) (hn : n ≤ 60) (hr : rank ≤ 1000000000000) : Calls Try.prog 63 #[.int .i64 rank] w (RetS w 4 (bools (greedy n 1 r))) := by
  have HA := Lib.hid h
  have hpos := h.pos.1
  have hodd := h.pos.2
  have hm0 := memo_first w
  have hmm := @run_makeMap Try.prog
  clear h
  go_enter Try.func63, Try.ntmps63
  go_wp2_with fail
  go_loopw [0, 4] (fun q i wr => ∃ m rr : Nat, 1 ≤ m ∧ m ≤ n ∧ m % 2 = 1 ∧ i = .int .i64 m ∧ q = .int .i64 rr ∧ Hid (rank = rkBase m + rr) ∧ MemoOk wr w.heap.size ∧ Below w.heap.size w wr) (fun _ i _ => n + 1 - (intOf i).toNat)
  case atStart => exact ⟨1, rank, by omega, by omega, by omega, rfl, rfl, Lib.hid (by rw [base1]; omega), hm0, below_new _ _⟩
  case round =>
    clear hmm hm0
    obtain ⟨m, rr, hm1, hm, hmo, rfl, rfl, HR, hmo1, hb⟩ := hrel
    have hrr : rr ≤ 1000000000000 := by have := HR.out; omega
    have hle := cnt_le m 1
    by_cases hlt : m < n
    · have hge := HA.out.ge HR.out hlt
      have HRR : Hid (rank = rkBase (m + 2) + (rr - cnt m 1)) := Lib.hid (by rw [rkBase_two m hmo]; have := HR.out; omega)
      have hge' : ((cnt m 1 : Nat) : Int) ≤ (rr : Int) := by omega
      go_wp2_with fail
      refine (count_any _ _ hmo1 m 1 (by omega) _ _ (by omega) (by omega)).mono ?_
      rintro e w2 ⟨rfl, hm2, hc2⟩
      go_wp2_with fail
      refine (count_any _ _ hm2 m 1 (by omega) _ _ (by omega) (by omega)).mono ?_
      rintro e w3 ⟨rfl, hm3, hc3⟩
      go_wp2_with fail
      go_roundw
      case rel => exact ⟨m + 2, rr - cnt m 1, by omega, by omega, by omega, by go_num, by rw [show ((rr : Int) - ((cnt m 1 : Nat) : Int)) = ((rr - cnt m 1 : Nat) : Int) by omega], HRR, hm3, below_ch hb (hc2.trans hc3) (by intro z hz; omega) hb.size⟩
      case measure => simp [intOf]; omega
    · obtain rfl : m = n := by omega
      have hrlt := HA.out.2
      obtain rfl : rr = r := by have := HA.out.1; have := HR.out; omega
      have HLT := Lib.hid hrlt
      have hge' : ¬ ((cnt m 1 : Nat) : Int) ≤ (rr : Int) := by omega
      have hgeN : ¬ cnt m 1 ≤ rr := by omega
      go_wp2_with fail
      refine (count_any _ _ hmo1 m 1 (by omega) _ _ (by omega) (by omega)).mono ?_
      rintro e w2 ⟨rfl, hm2, hc2⟩
      have hb2 := below_ch hb hc2 (by intro z hz; omega) hb.size
      have hB2 := hm2.lt
      have hlit := own_lit w2 #[] 0 4 rfl (by omega)
      have hm3 := hm2.alloc (.cells #[] 4)
      have hb3 := hb2.trans ((below_new w2 (.cells #[] 4)).mono hb2.size)
      have hlit' := own_base hlit (base' := w.heap.size + 1) (by omega)
      clear hb hc2 hrlt hmo1 hm2 hlit
      go_wp2_with fail
      go_loopw [0, 5, 6, 7] (fun q v p j wr => ∃ (l o s : Nat) (P : List Bool) (A : Option Addr) (c : Nat), l ≤ m ∧ o + l ≤ m + 1 ∧ j = .int .i64 ((l : Int) - 1) ∧ p = .int .i64 o ∧ q = .int .i64 s ∧ v = .slice A (m - l) c ∧ s ≤ 1000000000000 ∧ Hid (greedy m 1 rr = P ++ greedy l o s) ∧ Hid (s < cnt l o) ∧ wr.ownsRow (w.heap.size + 1) 4 1 (.slice A (m - l) c) (m - l) (bools P) ∧ MemoOk wr w.heap.size ∧ Below w.heap.size w wr) (fun _ _ _ j _ => (intOf j + 1).toNat)
      case atStart => exact ⟨m, 1, rr, [], _, _, by omega, by omega, rfl, rfl, rfl, by rw [Nat.sub_self], hrr, Lib.hid (by simp), HLT, by rw [Nat.sub_self]; exact hlit', hm3, hb3⟩
      case round =>
        clear hlit' hm3 hb3
        obtain ⟨l, o, s, P, A, c, hl, ho, rfl, rfl, rfl, rfl, hs, HP, HL, hown, hmo1, hb⟩ := hrel
        rcases l with _ | l
        · have e : greedy m 1 rr = P := by have := HP.out; simpa [greedy] using this
          have HE := Lib.hid e
          clear e
          have hneg : ¬ (0 : Int) ≤ ((0 : Nat) : Int) - 1 := by omega
          go_wp2_with fail
          go_ret
          exact ⟨A, m - 0, c, rfl, by rw [HE.out]; exact own_base hown (by omega), hb⟩
        · have hop := cnt_pos_o HL.out
          have e0 : (((l + 1 : Nat) : Int) - 1) = (l : Int) := by omega
          rw [e0]
          clear e0
          have hle2 := cnt_le l (o - 1)
          by_cases hf : s < cnt l (o - 1)
          · have HG1 := Lib.hid (greedy_f hf)
            have HF := Lib.hid hf
            have hf' : ¬ ((cnt l (o - 1) : Nat) : Int) ≤ (s : Int) := by omega
            have hfN : ¬ cnt l (o - 1) ≤ s := by omega
            clear hf
            go_wp2_with fail
            refine (count_any _ _ hmo1 l (o - 1) (by omega) _ _ (by omega) (by omega)).mono ?_
            rintro e w3 ⟨rfl, hm3, hc3⟩
            have hown3 := own_ch hown hc3 (fun k h1 h2 => by have := (hown.lt k h1).1; omega)
            have hb3 := below_ch hb hc3 (by intro z hz; omega) hb.size
            have hsz3 := hc3.size
            have hbs := hmo1.lt
            clear hmo1 hown
            go_wp2_with (at_builtin; go_must (refine wpList_app1g eltB rfl _ _ rfl w3 (w.heap.size + 1) _ (m - (l + 1)) _ (by rfl) hown3 _ (by rfl) (by rfl) (by omega) (by omega) ?_; rintro A4 c4 w4 hown4 hb4 hg4))
            have hm4 := memo_row hm3 hown3 (by omega) hg4
            go_roundw
            case rel => exact ⟨l, o - 1, s, P ++ [false], A4, c4, by omega, by omega, rfl, by rw [show ((o : Int) - 1) = ((o - 1 : Nat) : Int) by omega], rfl, by rw [show m - l = m - (l + 1) + 1 by omega], hs, Lib.hid (by rw [HP.out, HG1.out]; simp), HF, by rw [show m - l = m - (l + 1) + 1 by omega]; simpa using hown4, hm4, hb3.trans (hb4.mono (by omega))⟩
            case measure => simp only [intOf]; omega
          · have HG1 := Lib.hid (greedy_t hf)
            have HF := Lib.hid (greedy_lt HL.out hf)
            have hf' : ((cnt l (o - 1) : Nat) : Int) ≤ (s : Int) := by omega
            go_wp2_with fail
            refine (count_any _ _ hmo1 l (o - 1) (by omega) _ _ (by omega) (by omega)).mono ?_
            rintro e w3 ⟨rfl, hm3, hc3⟩
            have hown3 := own_ch hown hc3 (fun k h1 h2 => by have := (hown.lt k h1).1; omega)
            have hb3 := below_ch hb hc3 (by intro z hz; omega) hb.size
            have hsz3 := hc3.size
            have hbs := hmo1.lt
            have hf2 : cnt l (o - 1) ≤ s := by omega
            clear hmo1 hown hf
            go_wp2_with (at_builtin; go_must (refine wpList_app1g eltB rfl _ _ rfl w3 (w.heap.size + 1) _ (m - (l + 1)) _ (by rfl) hown3 _ (by rfl) (by rfl) (by omega) (by omega) ?_; rintro A4 c4 w4 hown4 hb4 hg4))
            have hm4 := memo_row hm3 hown3 (by omega) hg4
            go_roundw
            case rel => exact ⟨l, o + 1, s - cnt l (o - 1), P ++ [true], A4, c4, by omega, by omega, rfl, by go_num, by rw [show ((s : Int) - ((cnt l (o - 1) : Nat) : Int)) = ((s - cnt l (o - 1) : Nat) : Int) by omega], by rw [show m - l = m - (l + 1) + 1 by omega], by omega, Lib.hid (by rw [HP.out, HG1.out]; simp), HF, by rw [show m - l = m - (l + 1) + 1 by omega]; simpa using hown4, hm4, hb3.trans (hb4.mono (by omega))⟩
            case measure => simp only [intOf]; omega
set_option maxHeartbeats 400000 in
theorem l23Tag_any (w : World) (k : Nat) (hk : k ≤ 11) (x : Int) (hx : x = (k : Int)) : Calls Try.prog 144 #[.int .i64 x] w (RetS w 4 (bools (tagTr k).bits)) := by
  subst hx
  go_enter Try.func144, Try.ntmps144
  go_wp2_with fail
  refine (specTreeAt_any _ k _ _ (tag_at k hk) (by have := tagN_le k; omega) (by omega)).mono ?_
  rintro e w2 ⟨A, m, c, rfl, ho, hb⟩
  rw [tag_bits k hk] at ho
  go_wp2_with fail
  go_ret
  exact ⟨A, m, c, rfl, ho, hb⟩
set_option maxHeartbeats 400000 in
theorem tagTree_any (w : World) (k : Nat) (hk : k ≤ 11) (x : Int) (hx : x = (k : Int)) : Calls Try.prog 123 #[.int .i64 x] w (RetTr w w.heap.size (tagTr k)) := by
  subst hx
  go_enter Try.func123, Try.ntmps123
  go_wp2_with fail
  refine (treeAt_any _ k _ _ (tag_at k hk) (by have := tagN_le k; omega) (by omega)).mono ?_
  rintro e w2 ⟨A, m, c, rfl, ho, hb⟩
  rw [tag_bits k hk] at ho
  have hm : m ≤ 9 := by have h1 := ho.1; have h2 := tag_nodes k; simp [Tr.bits_len] at h1; omega
  go_wp2_with fail
  refine (treeOf_any _ _ _ _ _ (own_rd ho) (by omega)).mono ?_
  rintro e w3 ⟨v, rfl, ht, hb3⟩
  obtain ⟨o3, rfl⟩ := ht.isPtr
  go_wp2_with fail
  go_ret
  exact ⟨_, rfl, ht.wide hb.size (Nat.le_refl _), hb.trans (hb3.mono hb.size)⟩
end Go.Proofs.Ytilbgbibddjdcaa
