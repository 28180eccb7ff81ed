/- The reference's table of ways: the walk. -/
import Derived.Test.YtilbgbibddjdcaaWaysM
import Derived.IntWalk
namespace Go.Proofs.Ytilbgbibddjdcaa
open Go.RowKit
set_option linter.unusedVariables false
set_option linter.unusedSimpArgs false

theorem infoWI : (Try.prog.info? 2).map (fun i => (i.zero, i.size, i.bytes)) = some (some (.int .i64 0), 1, 8) := by kernel_rfl
theorem eltWI : Elt Try.prog 65 2 (.int .i64 0) := Elt.mk_ Try.underlying65 infoWI rfl (by decide)
theorem infoWS : (Try.prog.info? 65).map (fun i => (i.zero, i.size, i.bytes)) = some (some (.slice none 0 0), 1, 24) := by kernel_rfl
theorem eltWS : Elt Try.prog 63 65 (.slice none 0 0) := Elt.mk_ Try.underlying63 infoWS rfl (by decide)

set_option maxHeartbeats 400000 in
theorem l00Min_any (w : World) (a b : Int) : Calls Try.prog 103 #[.int .i64 a, .int .i64 b] w fun e w' => e = .returned (.int .i64 (min a b)) ∧ w = w' := by
  by_cases h : a < b
  · have HM : Hid (min a b = a) := Lib.hid (by omega)
    go_enter Try.func103, Try.ntmps103
    go_wp2_with fail
    go_ret
    exact ⟨by rw [HM.out]; rfl, rfl⟩
  · have HM : Hid (min a b = b) := Lib.hid (by omega)
    go_enter Try.func103, Try.ntmps103
    go_wp2_with fail
    go_ret
    exact ⟨by rw [HM.out]; rfl, rfl⟩
theorem own_full {w : World} {base e n g : Nat} {vs : List Value} (h : w.ownsRow base e 1 (.slice (some ⟨g, 0, none⟩) n n) n vs) : w.heap[g]? = some (.cells vs.toArray e (0, 0)) := by
  rcases h.2 with ⟨h', _⟩ | ⟨g', cap, cur, h', hb, hg, hnc, hcm, hcs, htake⟩
  · simp at h'
  · injection h' with h1 h2 h3
    injection h1 with h1
    injection h1 with h1
    subst h1 h3
    have e1 : cur.toList = vs := by
      rw [← htake, List.take_of_length_le]
      exact Nat.le_of_eq (by simpa using hcs)
    rw [hg, ← e1]
def WPost (w : World) (e : Ending) (w' : World) : Prop := ∃ (A : Option Addr) (c : Nat) (g : Nat → Nat) (t : Nat → Nat → Nat), e = .returned (.slice A 91 c) ∧ WT w' w.heap.size (.slice A 91 c) 91 g t ∧ (∀ r c, r < 90 → c < 91 → t r c = cnt c r) ∧ Below w.heap.size w w'
theorem wrow0 (r : Nat) : (List.replicate 91 (Value.int .i64 0)).toArray = wrow (fun _ _ => 0) r := by
  unfold wrow
  apply congrArg List.toArray
  symm
  rw [List.eq_replicate_iff]
  exact ⟨by simp, fun b hb => by obtain ⟨c, _, rfl⟩ := List.mem_map.1 hb; rfl⟩
theorem tt_le (n k r c : Nat) : tt n k r c ≤ 1000000000001 := by
  unfold tt
  split
  · omega
  · split
    · exact cnt_le _ _
    · omega
set_option maxHeartbeats 8000000 in
set_option maxRecDepth 100000 in
theorem l21Ways_any (w : World) : Calls Try.prog 59 #[] w (WPost w) := by
  have hlit := own_lit w #[] 0 65 rfl (by omega)
  go_enter Try.func59, Try.ntmps59
  go_wp2_with fail
  go_loopw [1, 2] (fun v i wr => ∃ (k : Nat) (A : Option Addr) (c : Nat) (g : Nat → Nat), k ≤ 91 ∧ v = .slice A k c ∧ i = .int .i64 k ∧ WT wr w.heap.size (.slice A k c) k g (fun _ _ => 0) ∧ Below w.heap.size w wr) (fun _ i _ => 91 - (intOf i).toNat)
  case atStart => exact ⟨0, _, _, fun _ => 0, by omega, rfl, rfl, ⟨hlit, fun r h => by omega, fun r s h => by omega⟩, below_new _ _⟩
  case round =>
    obtain ⟨k, A, c, g, hk, rfl, rfl, hT, hb⟩ := hrel
    clear hlit
    by_cases h : k < 91
    · have hlt : (k : Int) ≤ 90 := by omega
      have HT := Lib.hid hT
      clear hT
      go_wp2_with (first
        | (at_make; go_must (refine wpList_mk eltWI rfl _ _ rfl _ _ _ 91 (by rfl) (by rfl) (by rfl) (by rfl) (by omega) ?_); rintro w1 hown1 hb1 hs1; have HO1 := Lib.hid hown1; clear hown1)
        | (at_builtin; go_must (refine wpList_app1g eltWS rfl _ _ rfl w1 w.heap.size _ k _ (by rfl) (HT.out.below hb1).1 _ (by rfl) (by rfl) (by have := hb.size; have := hb1.size; omega) (by omega) ?_; rintro A2 c2 w2 ho2 hb2 hg2)))
      have hrow := own_full HO1.out
      rw [wrow0 k] at hrow
      have hP := (HT.out.below hb1).push wr.heap.size hb.size hrow (fun r hr => by have := blk_lt (HT.out.2.1 r hr).2; omega) ho2 hg2
      go_roundw
      case rel => exact ⟨k + 1, A2, c2, _, by omega, rfl, by go_num, hP, hb.trans (hb1.mono hb.size) |>.trans hb2⟩
      case measure => simp [intOf]; omega
    · obtain rfl : k = 91 := by omega
      obtain ⟨G, hA, hG⟩ := hT.outer
      obtain ⟨rfl, hGl⟩ := hA (by omega)
      have q0 := hG 0 (by omega)
      have f0 := blk_free (hT.2.1 0 (by omega)).2 0
      have c0 := hT.cell (r := 0) (c := 0) (by omega) (by omega)
      have hZ := hT.put (r := 0) (c := 0) (v := 1) (t' := tt 1 1) (by omega) (fun r' _ c' _ => by rw [← tt_zero])
      have HZ := Lib.hid hZ
      have hgb := (hT.2.1 0 (by omega)).1
      have HB := Lib.hid (hb.setCell (p := ⟨g 0, 0, none⟩) hgb (.int .i64 1))
      clear hT hZ hG
      go_wp2_with fail
      clear q0 f0 c0
      go_loopw [4] (fun q wr => ∃ n : Nat, 1 ≤ n ∧ n ≤ 91 ∧ q = .int .i64 n ∧ WT wr w.heap.size (.slice (some ⟨G, 0, none⟩) 91 c) 91 g (tt n 1) ∧ Below w.heap.size w wr) (fun q _ => 91 - (intOf q).toNat)
      case atStart => exact ⟨1, by omega, by omega, rfl, HZ.out, HB.out⟩
      case round =>
        obtain ⟨n, hn1, hn2, rfl, hT, hb2⟩ := hrel
        by_cases h : n < 91
        · have hlt : (n : Int) ≤ 90 := by omega
          go_wp2_with fail
          go_loopw [5] (fun q wr => ∃ k : Nat, 1 ≤ k ∧ k ≤ 90 ∧ q = .int .i64 k ∧ WT wr w.heap.size (.slice (some ⟨G, 0, none⟩) 91 c) 91 g (tt n k) ∧ Below w.heap.size w wr) (fun q _ => 90 - (intOf q).toNat)
          case atStart => exact ⟨1, by omega, by omega, rfl, hT, hb2⟩
          case round =>
            clear hT hb2
            obtain ⟨k, hk1, hk2, rfl, hT, hb2⟩ := hrel
            by_cases hk : k < 90
            · have hkl : (k : Int) < 90 := by omega
              obtain ⟨G', hA', hG'⟩ := hT.outer
              obtain ⟨e', _⟩ := hA' (by omega)
              obtain rfl : G = G' := by simpa using e'
              have q1 := hG' (k - 1) (by omega)
              have q2 := hG' (k + 1) (by omega)
              have q3 := hG' k (by omega)
              have c1 := hT.cell (r := k - 1) (c := n - 1) (by omega) (by omega)
              have c2 := hT.cell (r := k + 1) (c := n - 1) (by omega) (by omega)
              have f3 := blk_free (hT.2.1 k (by omega)).2 n
              have c3 := hT.cell (r := k) (c := n) (by omega) (by omega)
              have t1 := tt_le n k (k - 1) (n - 1)
              have t2 := tt_le n k (k + 1) (n - 1)
              have HS := Lib.hid (tt_step hn1 (by omega : n ≤ 90) hk1 hk)
              have HP := Lib.hid (hT.put (r := k) (c := n) (v := cnt n k) (t' := tt n (k + 1)) (by omega) (fun r' _ c' _ => tt_put hk r' c'))
              have HB2 := Lib.hid (hb2.setCell (p := ⟨g k, n, none⟩) (hT.2.1 k (by omega)).1 (.int .i64 (cnt n k : Nat)))
              clear hT hG' hA' e' hb2
              generalize tt n k (k - 1) (n - 1) = x1 at *
              generalize tt n k (k + 1) (n - 1) = x2 at *
              generalize cnt n k = x3 at *
              have e1 : IntKind.i64.wrap ((k : Int) - 1) = ((k - 1 : Nat) : Int) := by rw [show ((k : Int) - 1) = ((k - 1 : Nat) : Int) by omega]; exact IntWalk.i64_in _ (by omega)
              have e2 : IntKind.i64.wrap ((k : Int) + 1) = ((k + 1 : Nat) : Int) := by rw [show ((k : Int) + 1) = ((k + 1 : Nat) : Int) by omega]; exact IntWalk.i64_in _ (by omega)
              have e3 : IntKind.i64.wrap ((n : Int) - 1) = ((n - 1 : Nat) : Int) := by rw [show ((n : Int) - 1) = ((n - 1 : Nat) : Int) by omega]; exact IntWalk.i64_in _ (by omega)
              have e4 : IntKind.i64.wrap ((x1 : Int) + (x2 : Int)) = ((x1 + x2 : Nat) : Int) := by rw [show ((x1 : Int) + (x2 : Int)) = ((x1 + x2 : Nat) : Int) by omega]; exact IntWalk.i64_in _ (by omega)
              have i1 : ((k - 1 : Nat) : Int) < 91 := by omega
              have i2 : ((k + 1 : Nat) : Int) < 91 := by omega
              have i3 : ((n - 1 : Nat) : Int) < 91 := by omega
              have i4 : (0 : Int) ≤ ((k + 1 : Nat) : Int) := by omega
              have j1 : k - 1 < 91 := by omega
              have j2 : k + 1 < 91 := by omega
              have j3 : n - 1 < 91 := by omega
              have j4 : k < 91 := by omega
              have j5 : (k : Int) < 91 := by omega
              have j6 : (n : Int) < 91 := by omega
              have j7 : (0 : Int) ≤ (k : Int) := by omega
              have j8 : (0 : Int) ≤ (n : Int) := by omega
              go_wp2_with fail
              go_quiet (fail)
              go_wp2_with fail
              have HM : Hid (min ((x1 : Int) + (x2 : Int)) 1000000000001 = (x3 : Int)) := Lib.hid (by have := HS.out; omega)
              have q3' := q3
              clear q1 q2 c1 c2 e1 e2 e3 e4 i1 i2 i3 i4 j1 j2 j3 t1 t2
              go_region_with (go_at_call 103; refine (l00Min_any _ _ _).mono ?_; rw [HM.out]; rintro e w' ⟨rfl, rfl⟩)
              all_goals
                go_wp2_with fail
                go_roundw
                case rel => exact ⟨k + 1, by omega, by omega, by go_num, HP.out, ⟨HB2.out.os, HB2.out.tape, HB2.out.output, HB2.out.size, HB2.out.block⟩⟩
                case measure => simp [intOf]; omega
            · obtain rfl : k = 90 := by omega
              go_wp2_with fail
              go_roundw
              case rel => exact ⟨n + 1, by omega, by omega, by go_num, ⟨hT.1, fun r hr => by rw [← wrow_same (tt n 90) (tt (n + 1) 1) r (fun j hj => (tt_next r j hr))]; exact hT.2.1 r hr, hT.2.2⟩, hb2⟩
              case measure => simp [intOf]; omega
        · obtain rfl : n = 91 := by omega
          go_wp2_with fail
          go_ret
          exact ⟨_, _, g, _, rfl, hT, fun r c hr hc => tt_end r c hr hc, hb2⟩
end Go.Proofs.Ytilbgbibddjdcaa
