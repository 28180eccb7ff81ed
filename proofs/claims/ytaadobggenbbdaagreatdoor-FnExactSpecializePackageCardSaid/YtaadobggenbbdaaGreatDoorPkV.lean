/- Copies of programs, programs behind texts (reference). -/
import Derived.Test.YtaadobggenbbdaaGreatDoorPkU
import Derived.Test.YtaadobggenbbdaaGreatDoorPkM
namespace Go.Proofs.YtaadobggenbbdaaGreatDoor
open Go.RowKit
set_option linter.unusedVariables false
set_option linter.unusedSimpArgs false
attribute [local go_sem ↓] Go.wp_at_zero Go.wp_at_succ
/-- The expressions of commands, each in a row of its own. -/
def InnR (w : World) (us : List Value) (cs : List Cmd) : Prop := us.length = cs.length ∧ ∀ (i : Nat) (u : Value) (x : Cmd), us[i]? = some u → cs[i]? = some x → ∃ A n c, u = .slice A n c ∧ n ≤ 1000000000 ∧ n ≤ c ∧ w.ownsRow 0 98 2 (.slice A n c) n (ints (eNums x.e))
theorem InnR.ch {w w' : World} {us : List Value} {cs : List Cmd} {F : Nat → Prop} (h : InnR w us cs) (hc : Ch F w w') (hF : ∀ q, F q → ∀ ds, w.heap[q]? = some (.cells ds 98 (0, 0)) → False) : InnR w' us cs := by
  refine ⟨h.1, fun i u x hu hx => ?_⟩
  obtain ⟨A, n, c, e, h1, h2, h3⟩ := h.2 i u x hu hx
  refine ⟨A, n, c, e, h1, h2, own_ch h3 hc (fun q hq hf => ?_)⟩
  obtain ⟨ds, hd⟩ := own_foP h3 hq
  exact hF q hf ds hd
theorem InnR.below {w w' : World} {us : List Value} {cs : List Cmd} (h : InnR w us cs) (hb : Below w.heap.size w w') : InnR w' us cs := h.ch (F := fun _ => False) (ch_below hb) (fun _ hf => hf.elim)
theorem InnR.snoc {w : World} {us : List Value} {cs : List Cmd} {A : Option Addr} {n c : Nat} {x : Cmd} (h : InnR w us cs) (hn : n ≤ 1000000000) (hc : n ≤ c) (ho : w.ownsRow 0 98 2 (.slice A n c) n (ints (eNums x.e))) : InnR w (us ++ [.slice A n c]) (cs ++ [x]) := by
  refine ⟨by simp [h.1], fun i u y hu hy => ?_⟩
  by_cases hi : i < us.length
  · rw [List.getElem?_append_left hi] at hu
    rw [List.getElem?_append_left (by rw [← h.1]; exact hi)] at hy
    exact h.2 i u y hu hy
  · rw [List.getElem?_append_right (by omega)] at hu
    rw [List.getElem?_append_right (by rw [← h.1]; omega), ← h.1] at hy
    have h0 : i - us.length = 0 := by
      have h1 := (List.getElem?_eq_some_iff.1 hu).1
      simp at h1; omega
    rw [h0] at hu hy
    injection hu with hu
    injection hy with hy
    subst hu hy
    exact ⟨A, n, c, rfl, hn, hc, ho⟩
theorem InnR.rdc {w : World} {A : Option Addr} {n : Nat} {us : List Value} {cs : List Cmd} (h : InnR w us cs) (hr : Rd w A (n * 4) (flatC cs us)) : RdC w A n cs :=
  ⟨us, hr, h.1, fun i u x hu hx => by
    obtain ⟨A', n', c', e, h1, h2, h3⟩ := h.2 i u x hu hx
    exact ⟨A', n', c', e, h1, h2, ownN_rd h3⟩⟩
def OwnP2 (w : World) (n : Nat) (cs : List Cmd) (e : Ending) (w' : World) : Prop := ∃ A c us, e = .returned (.slice A n c) ∧ w'.ownsRow w.heap.size 53 4 (.slice A n c) n (flatC cs us) ∧ InnR w' us cs ∧ Below w.heap.size w w'
theorem InnR.one4 {w : World} {us : List Value} {cs : List Cmd} (h : InnR w us cs) : ∀ s ∈ us, s.oneCell' = true := fun s hs => by
  obtain ⟨i, hi, rfl⟩ := List.mem_iff_getElem.1 hs
  obtain ⟨x, hx⟩ := get_some (xs := cs) (k := i) (by rw [← h.1]; exact hi)
  obtain ⟨A', n', c', e, _⟩ := h.2 i _ x (List.getElem?_eq_getElem hi) hx
  rw [e]; rfl
set_option maxHeartbeats 8000000 in
set_option maxRecDepth 100000 in
theorem l22Own_any (w : World) (A : Option Addr) (n c : Nat) (cs : List Cmd) (hr : RdC w A n cs) (hn : n ≤ 1000000) : Calls Tryz.prog 66 #[.slice A n c] w (OwnP2 w n cs) := by
  have HL : Hid (cs.length = n) := Lib.hid hr.len
  have HR := Lib.hid hr; have HN := Lib.hid hn
  obtain ⟨w1, hw1⟩ : ∃ w1, w1 = w.alloc (.cells #[] 53) := ⟨_, rfl⟩
  have hb1 : Below w.heap.size w w1 := by rw [hw1]; exact below_new _ _
  have HB1 := Lib.hid hb1
  have HO1 : Hid (w1.ownsRow w.heap.size 53 4 (.slice (some ⟨w.heap.size, 0, none⟩) 0 0) 0 []) := Lib.hid (by rw [hw1]; exact ownN_lit w #[] 0 4 53 rfl (by omega))
  clear hr hb1
  go_enter Tryz.func66, Tryz.ntmps66
  go_upto_region 2 with fail
  rw [← hw1]
  clear hw1
  go_wp2_with fail
  go_loopw [3, 4] (fun v q wr => ∃ (k : Nat) (A1 : Option Addr) (c1 : Nat) (us : List Value), k ≤ n ∧ q = .int .i64 k ∧ v = .slice A1 k c1 ∧ Hid (wr.ownsRow w.heap.size 53 4 (.slice A1 k c1) k (flatC (cs.take k) us)) ∧ Hid (InnR wr us (cs.take k)) ∧ Hid (Below w.heap.size w wr)) (fun _ q _ => n - (intOf q).toNat)
  case atStart => exact ⟨0, _, _, [], Nat.zero_le _, by go_num, rfl, Lib.hid (by simpa [flatC] using HO1.out), Lib.hid ⟨by simp, by simp⟩, HB1⟩
  case round =>
    clear HO1 HB1
    obtain ⟨k, A1, c1, us, hk, rfl, rfl, HO, HI, HB⟩ := hrel
    by_cases hlt : k < n
    · skip
      obtain ⟨x, hx⟩ := get_some (xs := cs) (k := k) (by rw [HL.out]; exact hlt)
      obtain ⟨b, off, A', n', c', rfl, hbl, q0, q1, q2, q3, hn', hc', hre⟩ := (HR.out.below HB.out (Nat.le_refl _)).at_ hx
      have HT : Hid (cs.take (k + 1) = cs.take k ++ [x]) := Lib.hid (by rw [List.take_add_one, hx]; rfl)
      have HRE := Lib.hid hre; have HN' := Lib.hid hn'; have HC' := Lib.hid hc'
      obtain ⟨xk, xv, xl, xe⟩ := x
      simp only at q0 q1 q2 hre HRE
      obtain ⟨w2, hw2⟩ : ∃ w2, w2 = wr.alloc (.cells #[.int .i64 xk, .int .i64 xv, .int .i64 xl, .slice A' n' c'] 53) := ⟨_, rfl⟩
      have hb2 : Below wr.heap.size wr w2 := by rw [hw2]; exact below_new _ _
      have HX2 : Hid (w2.heap[wr.heap.size]? = some (.cells #[.int .i64 xk, .int .i64 xv, .int .i64 xl, .slice A' n' c'] 53 (0, 0))) := Lib.hid (by rw [hw2]; exact box_new _ _ _)
      have HO2 := Lib.hid (ownN_below HO.out hb2 (Nat.le_refl _))
      have HI2 := Lib.hid (HI.out.below hb2)
      have HB2 : Hid (Below w.heap.size w w2) := Lib.hid (bqcP hb2 HB.out)
      have HRE2 := Lib.hid (HRE.out.below hb2 (Nat.le_refl _))
      have HLT : Hid (∀ q, Fo (.slice A1 k c1) q → q ≠ wr.heap.size) := Lib.hid (fun q hq => by have := (HO.out.lt q hq).2; omega)
      have q3' : w2.cell? ⟨b, off + k * 4 + 3, none⟩ = some (.slice A' n' c') := (hb2.cell (p := ⟨b, off + k * 4 + 3, none⟩) hbl).trans q3
      have q3a : (w2.alloc (.cells #[] 98)).cell? ⟨b, off + k * 4 + 3, none⟩ = some (.slice A' n' c') := ((below_new w2 (.cells #[] 98)).cell (p := ⟨b, off + k * 4 + 3, none⟩) (Nat.lt_of_lt_of_le hbl hb2.size)).trans q3'
      clear hx hn' hc' hre hb2
      have hk0 : (0 : Int) ≤ (k : Int) := by omega
      have hk1 : (k : Int) < (n : Int) := by omega
      go_upto_region 6 with fail
      rw [← hw2]
      clear hw2 q0 q1 q2 q3
      have b3 := blk_cell HX2.out 3 rfl
      go_upto_region 7 with (at_builtin; go_must (refine wpList_appSN eltEl rfl _ _ rfl (w2.alloc (.cells #[] 98)) w2.heap.size (.slice (some ⟨w2.heap.size, 0, none⟩) 0 0) 0 [] (by rfl) (ownN_lit w2 #[] 0 2 98 rfl (by omega)) A' n' c' (ints (eNums xe)) (by rfl) (HRE2.out.alloc _) (ints_one1 _) (by simp) (by have := HN'.out; omega) ?_); rintro A4 c4 w4 ho4 hb4 hg4
                             have HO4 : Hid (w4.ownsRow w2.heap.size 98 2 (.slice A4 (0 + n') c4) (0 + n') (ints (eNums xe))) := Lib.hid (by simpa using ho4)
                             have HB24 : Hid (Below w2.heap.size w2 w4) := Lib.hid ((below_new w2 (.cells #[] 98)).trans hb4)
                             have b3 := blk_cell (blk_bel HX2.out HB24.out) 3 rfl
                             have f3 := blk_free (blk_bel HX2.out HB24.out) 3
                             rw [Nat.zero_add]
                             clear ho4 hb4 hg4)
      have HX4 := Lib.hid (blk_bel HX2.out HB24.out)
      obtain ⟨w5, hw5⟩ : ∃ w5, w5 = w4.setCell ⟨wr.heap.size, 3, none⟩ (.slice A4 n' c4) := ⟨_, rfl⟩
      have hc5 : Ch (· = wr.heap.size) w4 w5 := by rw [hw5]; exact ch_set _ _ _ _
      have HX5 : Hid (w5.heap[wr.heap.size]? = some (.cells #[.int .i64 xk, .int .i64 xv, .int .i64 xl, .slice A4 n' c4] 53 (0, 0))) := Lib.hid (by rw [hw5]; simpa using blk_set HX4.out 3 (.slice A4 n' c4))
      have HO5 := Lib.hid (own_ch (ownN_below HO2.out HB24.out (Nat.le_refl _)) hc5 (fun q hq e => HLT.out q hq e))
      have hty : ∀ q, q = wr.heap.size → ∀ ds, w4.heap[q]? = some (.cells ds 98 (0, 0)) → False := fun q e ds h => by subst e; exact blk_ne HX4.out h (by decide) rfl
      have HI5 := Lib.hid ((HI2.out.below HB24.out).ch hc5 hty)
      have HV5 : Hid (w5.ownsRow 0 98 2 (.slice A4 n' c4) n' (ints (eNums xe))) := Lib.hid (by
        have h7 := HO4.out
        rw [Nat.zero_add] at h7
        exact ownN_base (own_ch h7 hc5 (fun q hq e => by
          obtain ⟨ds, hd⟩ := own_foP h7 hq
          exact hty q e ds hd)) (Nat.zero_le _))
      have HB5 : Hid (Below w.heap.size w w5) := Lib.hid (below_ch (bqcP HB24.out HB2.out) hc5 (fun q e => by rw [show q = wr.heap.size from e]; exact HB.out.size) (by have h1 := HB2.out.size; have h2 := HB24.out.size; omega))
      rw [← hw5]
      clear hw5 hc5 hty
      have b0 := blk_cell HX5.out 0 rfl
      have b1 := blk_cell HX5.out 1 rfl
      have b2 := blk_cell HX5.out 2 rfl
      have b3' := blk_cell HX5.out 3 rfl
      clear b3 f3 q3' q3a
      have HKN : Hid (k ≤ 1099511627776) := Lib.hid (by have := HN.out; omega)
      have hnn := HN.out
      go_wp2_with (at_builtin; go_must (refine wpList_app1N eltCm rfl _ _ rfl w5 w.heap.size (.slice A1 k c1) k _ (by rfl) HO5.out #[.int .i64 xk, .int .i64 xv, .int .i64 xl, .slice A4 n' c4] rfl (by intro y hy; simp at hy; rcases hy with rfl | rfl | rfl | rfl <;> rfl) (by rfl) HB5.out.size HKN.out ?_); rintro A7 c7 w7 ho7 hb7 hg7
                   have HO7 := Lib.hid ho7
                   have hty : ∀ q, (Value.slice A1 k c1).ownBlock = some q → ∀ ds, w5.heap[q]? = some (.cells ds 98 (0, 0)) → False := fun q e ds h => by
                     obtain ⟨es, h1⟩ := own_foP HO5.out (show Fo _ q from e)
                     exact blk_ne h1 h (by decide) rfl
                   have HI7 := Lib.hid (HI5.out.ch (ch_row hg7) (fun q e ds h => hty q e ds h))
                   have HV7 := Lib.hid (own_ch HV5.out (ch_row hg7) (fun q hq e => by
                     obtain ⟨ds, hd⟩ := own_foP HV5.out hq
                     exact hty q e ds hd))
                   have HB7 : Hid (Below w.heap.size w w7) := Lib.hid (HB5.out.trans hb7)
                   clear ho7 hb7 hg7 hty)
      have HIS : Hid (InnR w7 (us ++ [.slice A4 n' c4]) (cs.take (k + 1))) := Lib.hid (by rw [HT.out]; exact HI7.out.snoc HN'.out (ownN_cap HV7.out) HV7.out)
      have HOS : Hid (w7.ownsRow w.heap.size 53 4 (.slice A7 (k + 1) c7) (k + 1) (flatC (cs.take (k + 1)) (us ++ [.slice A4 n' c4]))) := Lib.hid (by
        have h7 := HO7.out
        rw [HT.out, flatC_append _ _ _ _ HI7.out.1]
        exact h7)
      go_roundw
      case rel => exact ⟨k + 1, A7, c7, _, by omega, by go_num, rfl, HOS, HIS, HB7⟩
      case measure => simp [intOf]; omega
    · skip
      have hkn : k = n := by omega
      subst hkn
      have HE : Hid (cs.take k = cs) := Lib.hid (List.take_of_length_le (by rw [HL.out]; omega))
      go_wp2_with fail
      go_ret
      have h1 := HO.out
      have h2 := HI.out
      rw [HE.out] at h1 h2
      exact ⟨A1, c1, us, rfl, h1, h2, HB.out⟩
end Go.Proofs.YtaadobggenbbdaaGreatDoor
