/- FindAutomaton: the automaton of a number (program and reference). Written by mk_fat.py. -/
import Derived.Test.YtcpkhhammafchaaAuP
import Derived.StillTailTactics
namespace Go.Proofs.Ytcpkhhammafchaa
open Go.RowKit
set_option linter.unusedVariables false
set_option linter.unusedSimpArgs false
attribute [local go_sem ↓] Go.wp_at_zero Go.wp_at_succ
/-- A state's and symbol's successor in the automaton of a number. -/
def digA (st n k i : Nat) : Int := if i = 0 then 0 else ((k / st ^ (n - 1 - i) % st : Nat) : Int)
def rowA (st n k : Nat) : List Int := (List.range n).map (digA st n k)
/-- The row when all behind a place are laid. -/
def rowI (st n k m : Nat) : List Int := (List.range n).map (fun i => if i ≤ m then 0 else digA st n k i)
theorem rowI_zero (st n k : Nat) : rowI st n k 0 = rowA st n k := by
  unfold rowI rowA
  refine List.map_congr_left (fun i _ => ?_)
  by_cases h : i = 0
  · subst h; rfl
  · rw [if_neg (by omega)]
theorem rowI_new (st n k m : Nat) (h : n ≤ m + 1) : rowI st n k m = List.replicate n 0 := by
  unfold rowI
  rw [List.eq_replicate_iff]
  refine ⟨by simp, fun x hx => ?_⟩
  obtain ⟨i, hi, rfl⟩ := List.mem_map.1 hx
  rw [if_pos (by have := List.mem_range.1 hi; omega)]
theorem rowI_step (st n k m : Nat) (h : m + 1 < n) : (rowI st n k (m + 1)).set (m + 1) (digA st n k (m + 1)) = rowI st n k m := by
  apply List.ext_getElem?
  intro i
  by_cases hi : i < n
  · by_cases e : m + 1 = i
    · subst e
      rw [List.getElem?_set_self (by simp [rowI]; omega)]
      simp only [rowI, List.getElem?_map, List.getElem?_range hi, Option.map_some]
      rw [if_neg (by omega)]
    · rw [List.getElem?_set_ne e]
      simp only [rowI, List.getElem?_map, List.getElem?_range hi, Option.map_some]
      by_cases h2 : i ≤ m
      · rw [if_pos h2, if_pos (by omega)]
      · rw [if_neg h2, if_neg (by omega)]
  · rw [List.getElem?_eq_none (by simp [rowI]; omega), List.getElem?_eq_none (by simp [rowI]; omega)]
theorem rowI_len (st n k m : Nat) : (rowI st n k m).length = n := by simp [rowI]
theorem rowA_len (st n k : Nat) : (rowA st n k).length = n := by simp [rowA]
theorem div_pow (st n k m : Nat) (h : m + 1 < n) : k / st ^ (n - 1 - (m + 1)) / st = k / st ^ (n - 1 - m) := by
  rw [Nat.div_div_eq_div_mul, ← Nat.pow_succ, show n - 1 - m = (n - 1 - (m + 1)).succ by omega]
theorem rowI_step' (st n k m : Nat) (h0 : 0 < m) (h : m < n) : (rowI st n k m).set m (digA st n k m) = rowI st n k (m - 1) := by
  obtain ⟨m', rfl⟩ : ∃ m', m = m' + 1 := ⟨m - 1, by omega⟩
  exact rowI_step st n k m' h
theorem div_pow' (st n k m : Nat) (h0 : 0 < m) (h : m < n) : k / st ^ (n - 1 - m) / st = k / st ^ (n - 1 - (m - 1)) := by
  obtain ⟨m', rfl⟩ : ∃ m', m = m' + 1 := ⟨m - 1, by omega⟩
  exact div_pow st n k m' h
theorem run_mki (n : Nat) (hn : n ≤ 10000000) (w : World) : (Instr.makeSlice 25 (.int .i64 (n : Int)) (.int .i64 (n : Int))).run Try.prog w = .ok (.slice (some ⟨w.heap.size, 0, none⟩) n n) (w.alloc (.cells (madeCells #[.int .i64 0] n) 2)) := by
  obtain ⟨ht, hzc, i, hi, hz, hs1, hb⟩ := Try.eltI
  have hbn : i.bytes * n ≤ 24 * n := Nat.mul_le_mul_right _ hb
  exact run_make_row _ _ i _ ht hi hz hs1 hzc .i64 .i64 n (by omega) (by omega) w
theorem own_mki (n : Nat) (hn : n ≤ 10000000) (w : World) : (w.alloc (.cells (madeCells #[.int .i64 0] n) 2)).ownsRow w.heap.size 2 1 (.slice (some ⟨w.heap.size, 0, none⟩) n n) n (ints (List.replicate n 0)) := by
  have e : (madeCells #[Value.int .i64 0] n).toList = ints (List.replicate n 0) := by rw [toList_madeCells_one]; simp only [ints, List.map_replicate]
  have hs : (madeCells #[Value.int .i64 0] n).size = n := by have h := congrArg List.length e; simpa using h
  have h := own_lit w (madeCells #[.int .i64 0] n) n 2 hs (by omega)
  rwa [e] at h
/-- What the automaton of a number leaves. -/
def DfP (w : World) (st n k : Nat) (e : Ending) (w' : World) : Prop :=
  ∃ g : Nat, e = .returned (.tuple #[dfV (st : Int) (some ⟨g, 0, none⟩) n n, .bool (decide (k < st ^ (n - 1)))]) ∧ w'.ownsRow w.heap.size 2 1 (.slice (some ⟨g, 0, none⟩) n n) n (ints (rowA st n k)) ∧ Below w.heap.size w w'
theorem ch_set2 (wx : World) (r : Nat) (v0 v1 : Value) : Ch (· = r) wx ((wx.setCell ⟨r, 0, none⟩ v0).setCell ⟨r, 1, none⟩ v1) := (ch_set _ _ 0 _).trans (ch_set _ _ 1 _)
set_option maxHeartbeats 4000000 in
set_option maxRecDepth 100000 in
theorem l28At_any (w : World) (st s n k : Nat) (hst : 1 ≤ st ∧ st ≤ 3) (hs : 2 ≤ s ∧ s ≤ 6) (hn : st * s = n) (hk : k ≤ 1000000000) :
    Calls Try.prog 112 #[.int .i64 (st : Int), .int .i64 (s : Int), .int .i64 (k : Int)] w (DfP w st n k) := by
  have hn2 : 2 ≤ n ∧ n ≤ 18 := by
    have h1 : 1 * 2 ≤ st * s := Nat.mul_le_mul hst.1 hs.1
    have h2 : st * s ≤ 3 * 6 := Nat.mul_le_mul hst.2 hs.2
    omega
  have hni : (st : Int) * (s : Int) = (n : Int) := by rw [← hn]; push_cast; rfl
  have hwn : IntKind.i64.wrap ((st : Int) * (s : Int)) = (n : Int) := by rw [hni]; exact wr_of (by omega) (by omega)
  have hmk := run_mki n (by omega)
  obtain ⟨wa, hwa⟩ : ∃ wa, wa = w.alloc (.cells #[.int .i64 0, .slice none 0 0] 55) := ⟨_, rfl⟩
  obtain ⟨wb, hwb⟩ : ∃ wb, wb = wa.alloc (.cells (madeCells #[.int .i64 0] n) 2) := ⟨_, rfl⟩
  have sa : wa.heap.size = w.heap.size + 1 := by rw [hwa]; simp
  have sb : wb.heap.size = w.heap.size + 1 + 1 := by rw [hwb]; simp [sa]
  obtain ⟨wc, hwc⟩ : ∃ wc, wc = wb.alloc (.cells #[.int .i64 (st : Int), .slice (some ⟨w.heap.size + 1, 0, none⟩) n n] 55) := ⟨_, rfl⟩
  have xr : wc.heap[w.heap.size]? = some (.cells #[.int .i64 0, .slice none 0 0] 55 (0, 0)) := by
    rw [hwc]; refine blk_alloc ?_ _
    rw [hwb]; refine blk_alloc ?_ _
    rw [hwa]; exact box_new w _ _
  have xd : wc.heap[w.heap.size + 1 + 1]? = some (.cells #[.int .i64 (st : Int), .slice (some ⟨w.heap.size + 1, 0, none⟩) n n] 55 (0, 0)) := by
    rw [hwc, ← sb]; exact box_new wb _ _
  have xo : wc.ownsRow w.heap.size 2 1 (.slice (some ⟨w.heap.size + 1, 0, none⟩) n n) n (ints (rowI st n k (n - 1))) := by
    rw [rowI_new st n k (n - 1) (by omega), hwc, hwb, ← sa]
    exact ownN_base (ownN_below (own_mki n (by omega) wa) (below_new _ _) (Nat.le_refl _)) (by omega)
  have hB : Below w.heap.size w wc := by rw [hwc]; refine bqa ?_; rw [hwb]; refine bqa ?_; rw [hwa]; exact bqa (Below.refl _ _)
  have hW : wc = ((w.alloc (.cells #[.int .i64 0, .slice none 0 0] 55)).alloc (.cells (madeCells #[.int .i64 0] n) 2)).alloc (.cells #[.int .i64 (st : Int), .slice (some ⟨w.heap.size + 1, 0, none⟩) n n] 55) := by rw [hwc, hwb, hwa]
  have HXR := Lib.hid xr; have HXD := Lib.hid xd; have HXO := Lib.hid xo; have HB := Lib.hid hB
  have HK0 : Hid ((k : Int) = ((k / st ^ (n - 1 - (n - 1)) : Nat) : Int)) := Lib.hid (by rw [Nat.sub_self, Nat.pow_zero, Nat.div_one])
  have y1 := blk_cell xd 1 rfl
  clear hwa hwb hwc sa sb xr xd xo hB hni
  go_enter Try.func112, Try.ntmps112
  go_upto_region 2 with fail
  rw [← hW]
  clear hW hmk hwn
  go_upto_region 3 with fail
  clear y1
  as_aux_lemma =>
  go_loopw [2, 9] (fun num i wr => ∃ m : Nat, m < n ∧ i = .int .i64 m ∧ num = .int .i64 ((k / st ^ (n - 1 - m) : Nat) : Int) ∧ Hid (wr.ownsRow w.heap.size 2 1 (.slice (some ⟨w.heap.size + 1, 0, none⟩) n n) n (ints (rowI st n k m))) ∧ Hid (wr.heap[w.heap.size]? = some (.cells #[.int .i64 0, .slice none 0 0] 55 (0, 0))) ∧ Hid (wr.heap[w.heap.size + 1 + 1]? = some (.cells #[.int .i64 (st : Int), .slice (some ⟨w.heap.size + 1, 0, none⟩) n n] 55 (0, 0))) ∧ Hid (Below w.heap.size w wr)) (fun _ i _ => (intOf i).toNat)
  case atStart => exact ⟨n - 1, by omega, by go_num, by rw [← HK0.out], HXO, HXR, HXD, HB⟩
  case round =>
    as_aux_lemma =>
    obtain ⟨m, hm, rfl, rfl, HO, HR, HD, HBR⟩ := hrel
    have y0 := blk_cell HD.out 0 rfl
    have y1 := blk_cell HD.out 1 rfl
    obtain ⟨q, hq⟩ : ∃ q, q = k / st ^ (n - 1 - m) := ⟨_, rfl⟩
    have hqb : q ≤ 1000000000 := by rw [hq]; exact Nat.le_trans (Nat.div_le_self _ _) hk
    have HQ := Lib.hid hq
    rw [← hq]
    clear hq
    by_cases hz : m = 0
    · as_aux_lemma =>
      subst hz
      have z0 := blk_cell HR.out 0 rfl
      have z1 := blk_cell HR.out 1 rfl
      have f0 := blk_free HR.out 0
      have f1 := blk_free HR.out 1
      obtain ⟨bo, hbo⟩ : ∃ bo, bo = ((q : Int) == 0) := ⟨_, rfl⟩
      have HBO : Hid (bo = decide (k < st ^ (n - 1))) := Lib.hid (by
        rw [hbo, Bool.eq_iff_iff, beq_iff_eq, decide_eq_true_eq]
        have hp : 0 < st ^ (n - 1) := Nat.pow_pos (by omega)
        have h1 : q = k / st ^ (n - 1) := HQ.out
        constructor
        · intro h2
          have h3 : k / st ^ (n - 1) = 0 := by omega
          rcases Nat.div_eq_zero_iff.1 h3 with h4 | h4 <;> omega
        · intro h2
          rw [h1, Nat.div_eq_of_lt h2]; rfl)
      go_wp2_with fail
      exact bodyPost_ret (v := .tuple #[dfV (st : Int) (some ⟨w.heap.size + 1, 0, none⟩) n n, .bool bo]) (by simp [results, Try.results112, go_sem, z0, z1, hbo]) rfl ⟨w.heap.size + 1, by rw [HBO.out], by
        have h1 := own_ch HO.out (ch_set2 wr w.heap.size (.int .i64 (st : Int)) (.slice (some ⟨w.heap.size + 1, 0, none⟩) n n)) (fun q hq e => by
          have e1 : w.heap.size + 1 = q := by simpa [Fo, Value.ownBlock] using hq
          have e2 : q = w.heap.size := e
          omega)
        rw [rowI_zero] at h1
        exact h1, below_ch HBR.out (ch_set2 wr w.heap.size _ _) (fun q e => by have e2 : q = w.heap.size := e; omega) HBR.out.size⟩
    · as_aux_lemma =>
      have hm0 : (0 : Int) < (m : Int) := by omega
      have hmn : (m : Int) < (n : Int) := by omega
      have hmz : (0 : Int) ≤ (m : Int) := by omega
      have hst0 : ¬ (st : Int) = 0 := by omega
      have hst1 : ¬ st = 0 := by omega
      obtain ⟨dg, hdg⟩ : ∃ dg : Int, dg = ((q % st : Nat) : Int) := ⟨_, rfl⟩
      obtain ⟨qd, hqd⟩ : ∃ qd : Int, qd = ((q / st : Nat) : Int) := ⟨_, rfl⟩
      have hr1 : Int.tmod (q : Int) (st : Int) = dg := by rw [hdg, Int.tmod_eq_emod_of_nonneg (by omega)]; rfl
      have hr2 : Int.tdiv (q : Int) (st : Int) = qd := by rw [hqd, Int.tdiv_eq_ediv_of_nonneg (by omega)]; rfl
      have hr3 : IntKind.i64.wrap qd = qd := by
        rw [hqd]
        exact wr_of (Int.natCast_nonneg _) (Int.le_trans (Int.ofNat_le.2 (Nat.div_le_self q st)) (by omega))
      have HDG : Hid (dg = digA st n k m) := Lib.hid (by rw [hdg]; unfold digA; rw [if_neg (by omega), ← HQ.out])
      have HQ2 : Hid (qd = ((k / st ^ (n - 1 - (m - 1)) : Nat) : Int)) := Lib.hid (by rw [hqd, HQ.out, div_pow' st n k m (by omega) hm])
      have HQ3 : Hid (q / st = k / st ^ (n - 1 - (m - 1))) := Lib.hid (by rw [HQ.out, div_pow' st n k m (by omega) hm])
      clear hdg hqd HQ3
      obtain ⟨wd, hwd⟩ : ∃ wd, wd = wr.drew := ⟨_, rfl⟩
      have hbd : Below wr.heap.size wr wd := by rw [hwd]; exact bqd (Below.refl _ _)
      have HOd := Lib.hid (ownN_below HO.out hbd (Nat.le_refl _))
      obtain ⟨⟨vz, hvz⟩, hfz⟩ := own_cell0 HOd.out (j := m) (by omega)
      obtain ⟨w5, hw5⟩ : ∃ w5, w5 = wd.setCell ⟨w.heap.size + 1, m, none⟩ (.int .i64 dg) := ⟨_, rfl⟩
      have hc5 : Ch (· = w.heap.size + 1) wd w5 := by rw [hw5]; exact ch_set wd _ _ _
      have HO5 : Hid (w5.ownsRow w.heap.size 2 1 (.slice (some ⟨w.heap.size + 1, 0, none⟩) n n) n (ints (rowI st n k (m - 1)))) := Lib.hid (by
        have h2 := own_put HOd.out m (.int .i64 dg)
        rw [← hw5] at h2
        rw [← rowI_step' st n k m (by omega) hm, ← HDG.out]
        simpa only [ints, List.map_set] using h2)
      have HR5 := Lib.hid (blk_ch (blk_bel HR.out hbd) hc5 (by omega))
      have HD5 := Lib.hid (blk_ch (blk_bel HD.out hbd) hc5 (by omega))
      have HB5 : Hid (Below w.heap.size w w5) := Lib.hid (below_ch (bqc hbd HBR.out) hc5 (fun q e => by have e2 : q = w.heap.size + 1 := e; omega) (bqc hbd HBR.out).size)
      clear hc5 hbd
      go_wp2_with fail
      go_still_tail 7, (by kernel_rfl)
      change wpList _ _ _ _ _ wr.drew
      rw [← hwd]
      clear hwd
      go_wp2_with fail
      rw [← hw5]
      clear hw5 hvz hfz
      as_aux_lemma =>
      go_wp2_with fail
      go_roundw
      case rel => exact ⟨m - 1, by omega, by go_num, by rw [← HQ2.out], HO5, HR5, HD5, HB5⟩
      case measure => simp [intOf]; omega
set_option maxHeartbeats 4000000 in
set_option maxRecDepth 100000 in
theorem dfaAt_any (w : World) (st s n k : Nat) (hst : 1 ≤ st ∧ st ≤ 3) (hs : 2 ≤ s ∧ s ≤ 6) (hn : st * s = n) (hk : k ≤ 1000000000) :
    Calls Try.prog 114 #[.int .i64 (st : Int), .int .i64 (s : Int), .int .i64 (k : Int)] w (DfP w st n k) := by
  have hn2 : 2 ≤ n ∧ n ≤ 18 := by
    have h1 : 1 * 2 ≤ st * s := Nat.mul_le_mul hst.1 hs.1
    have h2 : st * s ≤ 3 * 6 := Nat.mul_le_mul hst.2 hs.2
    omega
  have hni : (st : Int) * (s : Int) = (n : Int) := by rw [← hn]; push_cast; rfl
  have hwn : IntKind.i64.wrap ((st : Int) * (s : Int)) = (n : Int) := by rw [hni]; exact wr_of (by omega) (by omega)
  have hmk := run_mki n (by omega)
  obtain ⟨wa, hwa⟩ : ∃ wa, wa = w.alloc (.cells #[.int .i64 0, .slice none 0 0] 55) := ⟨_, rfl⟩
  obtain ⟨wb, hwb⟩ : ∃ wb, wb = wa.alloc (.cells (madeCells #[.int .i64 0] n) 2) := ⟨_, rfl⟩
  have sa : wa.heap.size = w.heap.size + 1 := by rw [hwa]; simp
  have sb : wb.heap.size = w.heap.size + 1 + 1 := by rw [hwb]; simp [sa]
  obtain ⟨wc, hwc⟩ : ∃ wc, wc = wb.alloc (.cells #[.int .i64 (st : Int), .slice (some ⟨w.heap.size + 1, 0, none⟩) n n] 55) := ⟨_, rfl⟩
  have xr : wc.heap[w.heap.size]? = some (.cells #[.int .i64 0, .slice none 0 0] 55 (0, 0)) := by
    rw [hwc]; refine blk_alloc ?_ _
    rw [hwb]; refine blk_alloc ?_ _
    rw [hwa]; exact box_new w _ _
  have xd : wc.heap[w.heap.size + 1 + 1]? = some (.cells #[.int .i64 (st : Int), .slice (some ⟨w.heap.size + 1, 0, none⟩) n n] 55 (0, 0)) := by
    rw [hwc, ← sb]; exact box_new wb _ _
  have xo : wc.ownsRow w.heap.size 2 1 (.slice (some ⟨w.heap.size + 1, 0, none⟩) n n) n (ints (rowI st n k (n - 1))) := by
    rw [rowI_new st n k (n - 1) (by omega), hwc, hwb, ← sa]
    exact ownN_base (ownN_below (own_mki n (by omega) wa) (below_new _ _) (Nat.le_refl _)) (by omega)
  have hB : Below w.heap.size w wc := by rw [hwc]; refine bqa ?_; rw [hwb]; refine bqa ?_; rw [hwa]; exact bqa (Below.refl _ _)
  have hW : wc = ((w.alloc (.cells #[.int .i64 0, .slice none 0 0] 55)).alloc (.cells (madeCells #[.int .i64 0] n) 2)).alloc (.cells #[.int .i64 (st : Int), .slice (some ⟨w.heap.size + 1, 0, none⟩) n n] 55) := by rw [hwc, hwb, hwa]
  have HXR := Lib.hid xr; have HXD := Lib.hid xd; have HXO := Lib.hid xo; have HB := Lib.hid hB
  have HK0 : Hid ((k : Int) = ((k / st ^ (n - 1 - (n - 1)) : Nat) : Int)) := Lib.hid (by rw [Nat.sub_self, Nat.pow_zero, Nat.div_one])
  have y1 := blk_cell xd 1 rfl
  clear hwa hwb hwc sa sb xr xd xo hB hni
  go_enter Try.func114, Try.ntmps114
  go_upto_region 2 with fail
  rw [← hW]
  clear hW hmk hwn
  go_upto_region 3 with fail
  clear y1
  as_aux_lemma =>
  go_loopw [2, 9] (fun num i wr => ∃ m : Nat, m < n ∧ i = .int .i64 m ∧ num = .int .i64 ((k / st ^ (n - 1 - m) : Nat) : Int) ∧ Hid (wr.ownsRow w.heap.size 2 1 (.slice (some ⟨w.heap.size + 1, 0, none⟩) n n) n (ints (rowI st n k m))) ∧ Hid (wr.heap[w.heap.size]? = some (.cells #[.int .i64 0, .slice none 0 0] 55 (0, 0))) ∧ Hid (wr.heap[w.heap.size + 1 + 1]? = some (.cells #[.int .i64 (st : Int), .slice (some ⟨w.heap.size + 1, 0, none⟩) n n] 55 (0, 0))) ∧ Hid (Below w.heap.size w wr)) (fun _ i _ => (intOf i).toNat)
  case atStart => exact ⟨n - 1, by omega, by go_num, by rw [← HK0.out], HXO, HXR, HXD, HB⟩
  case round =>
    as_aux_lemma =>
    obtain ⟨m, hm, rfl, rfl, HO, HR, HD, HBR⟩ := hrel
    have y0 := blk_cell HD.out 0 rfl
    have y1 := blk_cell HD.out 1 rfl
    obtain ⟨q, hq⟩ : ∃ q, q = k / st ^ (n - 1 - m) := ⟨_, rfl⟩
    have hqb : q ≤ 1000000000 := by rw [hq]; exact Nat.le_trans (Nat.div_le_self _ _) hk
    have HQ := Lib.hid hq
    rw [← hq]
    clear hq
    by_cases hz : m = 0
    · as_aux_lemma =>
      subst hz
      have z0 := blk_cell HR.out 0 rfl
      have z1 := blk_cell HR.out 1 rfl
      have f0 := blk_free HR.out 0
      have f1 := blk_free HR.out 1
      obtain ⟨bo, hbo⟩ : ∃ bo, bo = ((q : Int) == 0) := ⟨_, rfl⟩
      have HBO : Hid (bo = decide (k < st ^ (n - 1))) := Lib.hid (by
        rw [hbo, Bool.eq_iff_iff, beq_iff_eq, decide_eq_true_eq]
        have hp : 0 < st ^ (n - 1) := Nat.pow_pos (by omega)
        have h1 : q = k / st ^ (n - 1) := HQ.out
        constructor
        · intro h2
          have h3 : k / st ^ (n - 1) = 0 := by omega
          rcases Nat.div_eq_zero_iff.1 h3 with h4 | h4 <;> omega
        · intro h2
          rw [h1, Nat.div_eq_of_lt h2]; rfl)
      go_wp2_with fail
      exact bodyPost_ret (v := .tuple #[dfV (st : Int) (some ⟨w.heap.size + 1, 0, none⟩) n n, .bool bo]) (by simp [results, Try.results114, go_sem, z0, z1, hbo]) rfl ⟨w.heap.size + 1, by rw [HBO.out], by
        have h1 := own_ch HO.out (ch_set2 wr w.heap.size (.int .i64 (st : Int)) (.slice (some ⟨w.heap.size + 1, 0, none⟩) n n)) (fun q hq e => by
          have e1 : w.heap.size + 1 = q := by simpa [Fo, Value.ownBlock] using hq
          have e2 : q = w.heap.size := e
          omega)
        rw [rowI_zero] at h1
        exact h1, below_ch HBR.out (ch_set2 wr w.heap.size _ _) (fun q e => by have e2 : q = w.heap.size := e; omega) HBR.out.size⟩
    · as_aux_lemma =>
      have hm0 : (0 : Int) < (m : Int) := by omega
      have hmn : (m : Int) < (n : Int) := by omega
      have hmz : (0 : Int) ≤ (m : Int) := by omega
      have hst0 : ¬ (st : Int) = 0 := by omega
      have hst1 : ¬ st = 0 := by omega
      obtain ⟨dg, hdg⟩ : ∃ dg : Int, dg = ((q % st : Nat) : Int) := ⟨_, rfl⟩
      obtain ⟨qd, hqd⟩ : ∃ qd : Int, qd = ((q / st : Nat) : Int) := ⟨_, rfl⟩
      have hr1 : Int.tmod (q : Int) (st : Int) = dg := by rw [hdg, Int.tmod_eq_emod_of_nonneg (by omega)]; rfl
      have hr2 : Int.tdiv (q : Int) (st : Int) = qd := by rw [hqd, Int.tdiv_eq_ediv_of_nonneg (by omega)]; rfl
      have hr3 : IntKind.i64.wrap qd = qd := by
        rw [hqd]
        exact wr_of (Int.natCast_nonneg _) (Int.le_trans (Int.ofNat_le.2 (Nat.div_le_self q st)) (by omega))
      have HDG : Hid (dg = digA st n k m) := Lib.hid (by rw [hdg]; unfold digA; rw [if_neg (by omega), ← HQ.out])
      have HQ2 : Hid (qd = ((k / st ^ (n - 1 - (m - 1)) : Nat) : Int)) := Lib.hid (by rw [hqd, HQ.out, div_pow' st n k m (by omega) hm])
      have HQ3 : Hid (q / st = k / st ^ (n - 1 - (m - 1))) := Lib.hid (by rw [HQ.out, div_pow' st n k m (by omega) hm])
      clear hdg hqd HQ3
      obtain ⟨wd, hwd⟩ : ∃ wd, wd = wr.drew := ⟨_, rfl⟩
      have hbd : Below wr.heap.size wr wd := by rw [hwd]; exact bqd (Below.refl _ _)
      have HOd := Lib.hid (ownN_below HO.out hbd (Nat.le_refl _))
      obtain ⟨⟨vz, hvz⟩, hfz⟩ := own_cell0 HOd.out (j := m) (by omega)
      obtain ⟨w5, hw5⟩ : ∃ w5, w5 = wd.setCell ⟨w.heap.size + 1, m, none⟩ (.int .i64 dg) := ⟨_, rfl⟩
      have hc5 : Ch (· = w.heap.size + 1) wd w5 := by rw [hw5]; exact ch_set wd _ _ _
      have HO5 : Hid (w5.ownsRow w.heap.size 2 1 (.slice (some ⟨w.heap.size + 1, 0, none⟩) n n) n (ints (rowI st n k (m - 1)))) := Lib.hid (by
        have h2 := own_put HOd.out m (.int .i64 dg)
        rw [← hw5] at h2
        rw [← rowI_step' st n k m (by omega) hm, ← HDG.out]
        simpa only [ints, List.map_set] using h2)
      have HR5 := Lib.hid (blk_ch (blk_bel HR.out hbd) hc5 (by omega))
      have HD5 := Lib.hid (blk_ch (blk_bel HD.out hbd) hc5 (by omega))
      have HB5 : Hid (Below w.heap.size w w5) := Lib.hid (below_ch (bqc hbd HBR.out) hc5 (fun q e => by have e2 : q = w.heap.size + 1 := e; omega) (bqc hbd HBR.out).size)
      clear hc5 hbd
      go_wp2_with fail
      go_still_tail 7, (by kernel_rfl)
      change wpList _ _ _ _ _ wr.drew
      rw [← hwd]
      clear hwd
      go_wp2_with fail
      rw [← hw5]
      clear hw5 hvz hfz
      as_aux_lemma =>
      go_wp2_with fail
      go_roundw
      case rel => exact ⟨m - 1, by omega, by go_num, by rw [← HQ2.out], HO5, HR5, HD5, HB5⟩
      case measure => simp [intOf]; omega
end Go.Proofs.Ytcpkhhammafchaa
