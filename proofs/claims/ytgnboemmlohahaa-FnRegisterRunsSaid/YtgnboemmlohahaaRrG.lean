/- Programs of registers (reference): cleared, moved. -/
import Derived.Test.YtgnboemmlohahaaRrF
namespace Go.Proofs.Ytgnboemmlohahaa
open Go.RowKit
set_option linter.unusedVariables false
set_option linter.unusedSimpArgs false
attribute [local go_sem ↓] Go.wp_at_zero Go.wp_at_succ
set_option maxHeartbeats 400000 in
theorem l07Clear_any (w : World) (r : Int) : Calls Try.prog 30 #[.int .i64 r] w (ProgE w 1 [⟨1, r, 0, 1⟩]) := by
  go_enter Try.func30, Try.ntmps30
  go_wp2_with fail
  go_ret
  exact ⟨_, _, rfl, ownN_lit w #[.int .i64 1, .int .i64 r, .int .i64 0, .int .i64 1] 1 4 49 rfl (by omega), below_new _ _⟩
theorem rd_new4 (w : World) (T : TypeId) (a b c d : Value) : ∀ j u, [a, b, c, d][j]? = some u → (w.alloc (.cells #[a, b, c, d] T)).cell? ((⟨w.heap.size, 0, none⟩ : Addr).add j) = some u := fun j u hu => by
  rw [add_plain', Nat.zero_add]
  exact blk_cell (box_new w _ _) j (by simpa using hu)
theorem grown_undrew {w w' : World} {row : Option Nat} (h : w.drew.grownBy w' row) : w.grownBy w' row := ⟨h.os, h.tape, h.output, h.size, h.block⟩
theorem flatI_one (x : Ins) : ints (flatI [x]) = [.int .i64 x.kind, .int .i64 x.reg, .int .i64 x.thn, .int .i64 x.els] := rfl
def ProgOk (w : World) (m : Nat) (e : Ending) (w' : World) : Prop := ∃ p, okProg p = true ∧ p.length = m ∧ ProgE w m p e w'
set_option maxHeartbeats 4000000 in
set_option maxRecDepth 100000 in
theorem l07Move_any (w : World) (r : Int) (hr0 : 0 ≤ r ∧ r ≤ 23) (A : Option Addr) (m c : Nat) (ts : List Int) (hr : Rd w A m (ints ts)) (hm : 1 ≤ m ∧ m ≤ 20) (ht : ∀ t ∈ ts, 0 ≤ t ∧ t ≤ 23) :
    Calls Try.prog 33 #[.int .i64 r, .slice A m c] w (ProgOk w (m + 1)) := by
  have HL : Hid (ts.length = m) := Lib.hid (by simpa using hr.1)
  have HR := Lib.hid hr; have HT := Lib.hid ht
  have hmq : ((m : Int) == 0) = false := by rw [beq_eq_false_iff_ne]; omega
  have HWM := Lib.hid (wr_of (x := (m : Int) + 1) (by omega) (by omega))
  have HO1 : Hid ((w.alloc (.cells #[.int .i64 1, .int .i64 r, .int .i64 1, .int .i64 ((m : Int) + 1)] 49)).ownsRow w.heap.size 49 4 (.slice (some ⟨w.heap.size, 0, none⟩) 1 1) 1 (ints (flatI [⟨1, r, 1, (m : Int) + 1⟩]))) := Lib.hid (ownN_lit w #[.int .i64 1, .int .i64 r, .int .i64 1, .int .i64 ((m : Int) + 1)] 1 4 49 rfl (by omega))
  have HB1 : Hid (Below w.heap.size w (w.alloc (.cells #[.int .i64 1, .int .i64 r, .int .i64 1, .int .i64 ((m : Int) + 1)] 49))) := Lib.hid (below_new _ _)
  have HK1 : Hid (okIns ((m : Int) + 1) ⟨1, r, 1, (m : Int) + 1⟩ = true) := Lib.hid (okIns_mk hr0 (by simp only; omega) (.inr ⟨rfl, by simp only; omega, by simp only; omega⟩))
  clear hr ht hr0
  have hwm := HWM.out
  go_enter Try.func33, Try.ntmps33
  go_wp2_with fail
  clear hwm
  go_loopw [6, 7] (fun v q wr => ∃ (k k1 : Nat) (A1 : Option Addr) (c1 : Nat) (ps : List Ins), k ≤ m ∧ Hid (k1 = k + 1) ∧ q = .int .i64 k ∧ v = .slice A1 k1 c1 ∧ Hid (wr.ownsRow w.heap.size 49 4 (.slice A1 k1 c1) k1 (ints (flatI ps))) ∧ Hid (ps.all (okIns ((m : Int) + 1)) = true) ∧ Hid (Below w.heap.size w wr)) (fun _ q _ => m - (intOf q).toNat)
  case atStart => exact ⟨0, 1, _, _, _, Nat.zero_le _, Lib.hid rfl, by go_num, rfl, HO1, Lib.hid (by simp [HK1.out]), HB1⟩
  case round =>
    skip
    obtain ⟨k, k1, A1, c1, ps, hk, HK1', rfl, rfl, HO, HOK, HB⟩ := hrel
    clear HO1 HB1 HK1
    by_cases hlt : k < m
    · skip
      obtain ⟨x, hx⟩ := get_some (xs := ts) (k := k) (by rw [HL.out]; exact hlt)
      have HX := Lib.hid (HT.out x (List.mem_of_getElem? hx))
      obtain ⟨b, off, rfl, hbl, p0⟩ := (HR.out.below HB.out (Nat.le_refl _)).at_ (ints_get hx)
      have HW2 := Lib.hid (wr_of (x := (k : Int) + 2) (by omega) (by omega))
      have HKM : Hid (k1 ≤ 1099511627776) := Lib.hid (by have := HK1'.out; omega)
      have hi0 : (0 : Int) ≤ (k : Int) := by omega
      have hi1 : (k : Int) < (m : Int) := by omega
      obtain ⟨v, hv⟩ : ∃ v : Int, v = Int.tmod ((k : Int) + 2) ((m : Int) + 1) := ⟨_, rfl⟩
      have HV : Hid (0 ≤ v ∧ v ≤ (m : Int)) := Lib.hid (by
        rw [hv, Int.tmod_eq_emod_of_nonneg (by omega)]
        have h1 := Int.emod_nonneg ((k : Int) + 2) (show (m : Int) + 1 ≠ 0 by omega)
        have h2 := Int.emod_lt_of_pos ((k : Int) + 2) (show 0 < (m : Int) + 1 by omega)
        omega)
      have hne : ¬ (m : Int) + 1 = 0 := by omega
      have HO3 : Hid (((wr.alloc (.cells #[.int .i64 0, .int .i64 x, .int .i64 v, .int .i64 0] 49)).drew).ownsRow w.heap.size 49 4 (.slice A1 k1 c1) k1 (ints (flatI ps))) := Lib.hid (ownN_below HO.out (bqd (below_new _ _)) (Nat.le_refl _))
      have HN : Hid (∀ j u', [Value.int .i64 0, .int .i64 x, .int .i64 v, .int .i64 0][j]? = some u' → ((wr.alloc (.cells #[.int .i64 0, .int .i64 x, .int .i64 v, .int .i64 0] 49)).drew).cell? ((⟨wr.heap.size, 0, none⟩ : Addr).add j) = some u') := Lib.hid (rd_new4 wr _ _ _ _ _)
      have HS3 : Hid (w.heap.size ≤ ((wr.alloc (.cells #[.int .i64 0, .int .i64 x, .int .i64 v, .int .i64 0] 49)).drew).heap.size) := Lib.hid (by have h := (bqd (bqa (o := .cells #[.int .i64 0, .int .i64 x, .int .i64 v, .int .i64 0] 49) HB.out)).size; exact h)
      have HB3 : Hid (Below w.heap.size w ((wr.alloc (.cells #[.int .i64 0, .int .i64 x, .int .i64 v, .int .i64 0] 49)).drew)) := Lib.hid (bqd (bqa HB.out))
      clear hx
      replace hv := hv.symm
      have HWV := Lib.hid (wr_of (x := v) HV.out.1 (by have := HV.out.2; omega))
      have HVV := Lib.hid hv
      have hwm := HWM.out; have hw2 := HW2.out; have hwv := HWV.out
      go_wp2_with fail
      (first | (go_region_law (first
        | (refine step_app1N eltIn (by rfl) _ _ (by rfl) ((wr.alloc (.cells #[.int .i64 0, .int .i64 x, .int .i64 v, .int .i64 0] 49)).drew) w.heap.size (.slice A1 k1 c1) k1 (ints (flatI ps)) (by go_simp) (by exact HO3.out) ⟨wr.heap.size, 0, none⟩ [.int .i64 0, .int .i64 x, .int .i64 v, .int .i64 0] rfl (by go_simp) (by exact HN.out) (by simp [Value.oneCell']) (by exact HS3.out) (by exact HKM.out) ?_
           intro A9 c9 w9 ho9 hg9
           have HO9 := Lib.hid ho9; have HG9 : Hid (((wr.alloc (.cells #[.int .i64 0, .int .i64 x, .int .i64 v, .int .i64 0] 49)).drew).grownBy w9 (Value.slice A1 k1 c1).ownBlock) := Lib.hid hg9
           clear ho9 hg9 hwm hw2 hwv hv p0 hi0 hi1 hne hmq))) | fail)
      all_goals
        skip
        have ho9 := HO9.out
        rw [show [Value.int .i64 0, .int .i64 x, .int .i64 v, .int .i64 0] = ints (flatI [(⟨0, x, v, 0⟩ : Ins)]) from rfl, ints_two, ← flatI_app] at ho9
        have HO10 := Lib.hid ho9
        have HB9 : Hid (Below w.heap.size w w9) := Lib.hid (HB3.out.trans (below_grown (base := w.heap.size) (by have h := HG9.out; exact h) HS3.out (fun q hq => (HO3.out.lt q hq).1)))
        have HK9 : Hid ((ps ++ [(⟨0, x, v, 0⟩ : Ins)]).all (okIns ((m : Int) + 1)) = true) := Lib.hid (by
          rw [List.all_append, HOK.out, Bool.true_and]
          simp only [List.all_cons, List.all_nil, Bool.and_true]
          exact okIns_mk HX.out (by have := HV.out; simp only; omega) (.inl ⟨rfl, rfl⟩))
        clear ho9 HO9 HG9
        go_wp2_with fail
        go_roundw
        case rel => exact ⟨k + 1, k1 + 1, A9, c9, _, by omega, Lib.hid (by have := HK1'.out; omega), by go_num, rfl, HO10, HK9, HB9⟩
        case measure => simp only [intOf]; omega
    · skip
      have hkm : k = m := by omega
      subst hkm
      go_wp2_with fail
      go_ret
      have hl : ps.length = k1 := rd_lenF (ownN_rd HO.out)
      have e1 := HK1'.out
      subst e1
      exact ⟨ps, okProg_mk hl (by omega) HOK.out, hl, _, _, rfl, HO.out, HB.out⟩
end Go.Proofs.Ytgnboemmlohahaa
