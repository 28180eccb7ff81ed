/- The reference's reader of programs: a text of one assignment. -/
import Derived.Test.YtaadobggenbbdaaGreatDoorPkS
namespace Go.Proofs.YtaadobggenbbdaaGreatDoor
open Go.RowKit
set_option linter.unusedVariables false
set_option linter.unusedSimpArgs false
attribute [local go_sem ↓] Go.wp_at_zero Go.wp_at_succ
theorem bs_len (s : ByteArray) : s.size = s.data.toList.length := by rw [Array.length_toList]; rfl
theorem bsAt_of {s : ByteArray} {l : List Nat} (h : s.data.toList.map (·.toNat) = l) : BsAt s 0 l := by
  intro i c hi j hj
  rw [Nat.zero_add] at hj
  subst hj
  rw [← h, List.getElem?_map] at hi
  have hl : j < s.data.toList.length := by
    by_cases hc : j < s.data.toList.length
    · exact hc
    · rw [List.getElem?_eq_none (by omega)] at hi; cases hi
  have hs : j < s.size := by rw [bs_len]; exact hl
  refine ⟨hs, ?_⟩
  rw [List.getElem?_eq_getElem hl] at hi
  simp only [Option.map_some, Option.some.injEq] at hi
  rw [← hi]
  simp [ByteArray.getElem_eq_getElem_data]
/-- A text that the reference reads as an assignment. -/
structure SrcOk (x : Tx) (s : ByteArray) : Prop where
  bs : s.data.toList.map (·.toNat) = 48 :: 61 :: x.rn
  dp : x.deep ≤ 40
  l2 : x.rn.length ≤ 1000
theorem SrcOk.size {x : Tx} {s : ByteArray} (h : SrcOk x s) : s.size = x.rn.length + 2 := by
  have h1 := congrArg List.length h.bs
  rw [List.length_map, ← bs_len] at h1
  rw [h1]; simp
def AllSt (w : World) (x : Tx) (s : ByteArray) (at_ out : Value) (wr : World) : Prop :=
  (at_ = .int .i64 0 ∧ out = .slice (some ⟨w.heap.size, 0, none⟩) 0 0 ∧ wr.ownsRow w.heap.size 53 4 (.slice (some ⟨w.heap.size, 0, none⟩) 0 0) 0 [] ∧ Below w.heap.size w wr) ∨
  (∃ A1 c1, at_ = .int .i64 (s.size : Int) ∧ out = .slice A1 1 c1 ∧ CmdR w x A1 c1 wr ∧ Below w.heap.size w wr)
def TxtR (w : World) (x : Tx) (e : Ending) (w' : World) : Prop := ∃ A1 c1 n, e = .returned (.tuple #[.slice A1 1 c1, .int .i64 n, .bool true]) ∧ CmdR w x A1 c1 w' ∧ Below w.heap.size w w'
set_option maxHeartbeats 8000000 in
set_option maxRecDepth 100000 in
theorem readAll_any (x : Tx) (s : ByteArray) (hs : SrcOk x s) (w : World) :
    Calls Tryz.prog 61 #[.string s, .int .i64 0, .int .i64 80] w (TxtR w x) := by
  have hb := bsAt_of hs.bs
  have hsz := hs.size
  obtain ⟨h0, hc0⟩ := hb 0 48 rfl 0 rfl
  have HRX := Lib.hid (fun (w2 : World) => readExpr_any x w2 s 2 40 (fun i c hi j hj => hb (i + 2) c (by simpa using hi) j (by omega)) (by have := hs.dp; omega) (by omega) (by have := hs.l2; omega))
  rw [show 2 + x.rn.length = s.size by omega] at HRX
  have hsb : s.size ≤ 2000 := by have := hs.l2; omega
  have HLN : Hid (x.els.length ≤ 1000) := Lib.hid (by have h1 := x.els_rn; have := hs.l2; omega)
  obtain ⟨w1, hw1⟩ : ∃ w1, w1 = w.alloc (.cells #[] 53) := ⟨_, rfl⟩
  have hb1 : Below w.heap.size w w1 := by rw [hw1]; exact below_new _ _
  have HST : Hid (AllSt w x s (.int .i64 0) (.slice (some ⟨w.heap.size, 0, none⟩) 0 0) w1) := Lib.hid (.inl ⟨rfl, rfl, by rw [hw1]; exact ownN_lit w #[] 0 4 53 rfl (by omega), hb1⟩)
  clear hb hsz hs hb1
  go_enter Tryz.func61, Tryz.ntmps61
  go_upto_region 2 with fail
  rw [← hw1]
  clear hw1
  go_loopw [1, 9] (fun q v wr => Hid (AllSt w x s q v wr)) (fun _ v _ => 1 - sLenP v)
  case atStart => exact HST
  case round =>
    clear HST
    rcases hrel.out with ⟨rfl, rfl, ho0, hb0⟩ | ⟨A1, c1, rfl, rfl, hcm, hb0⟩
    · skip
      have HO0 := Lib.hid ho0; have HB0 := Lib.hid hb0
      clear hrel ho0 hb0
      have hlt : (0 : Int) < (s.size : Int) := by omega
      have hne : ¬ s = ByteArray.empty := fun e => by rw [e] at h0; exact absurd h0 (by decide)
      have HR2 := Lib.hid (HRX.out wr)
      clear HRX
      go_wp2_with (first
        | (go_at_call 89
           refine HR2.out.mono ?_
           rintro e w5 ⟨A5, c5, rfl, ho, hb⟩
           have HV5 := Lib.hid (ownN_base ho HB0.out.size)
           have HO5 := Lib.hid (ownN_below HO0.out hb (Nat.le_refl _))
           have HB5 : Hid (Below w.heap.size w w5) := Lib.hid (bqcP hb HB0.out)
           clear ho hb)
        | (at_builtin; go_must (refine wpList_app1N eltCm rfl _ _ rfl w5 w.heap.size (.slice (some ⟨w.heap.size, 0, none⟩) 0 0) 0 [] (by rfl) HO5.out #[.int .i64 0, .int .i64 0, .int .i64 0, .slice A5 x.els.length c5] rfl (by intro y hy; simp at hy; rcases hy with rfl | rfl <;> rfl) (by rfl) HB5.out.size (by omega) ?_); rintro A7 c7 w7 ho7 hb7 hg7
           have HO7 := Lib.hid ho7
           have HV7 := Lib.hid (own_ch HV5.out (ch_row hg7) (fun q h1 h2 => own_types HV5.out HO5.out (by decide) q h1 h2))
           have HB7 : Hid (Below w.heap.size w w7) := Lib.hid (HB5.out.trans hb7)
           clear ho7 hb7 hg7))
      go_roundw
      case rel => exact Lib.hid (.inr ⟨A7, c7, rfl, rfl, ⟨A5, c5, HO7.out, HV7.out⟩, HB7.out⟩)
      case measure => simp [sLenP]
    · skip
      have HCM := Lib.hid hcm; have HB0 := Lib.hid hb0
      clear hrel hcm hb0 HRX
      go_wp2_with fail
      refine bodyPost_ret (v := .tuple #[.slice A1 1 c1, .int .i64 (s.size : Int), .bool true]) (by simp [results, Tryz.results61, go_sem]) rfl ?_
      exact ⟨A1, c1, _, rfl, HCM.out, HB0.out⟩
set_option maxHeartbeats 400000 in
theorem l24Text_any (x : Tx) (s : ByteArray) (hs : SrcOk x s) (w : World) : Calls Tryz.prog 30 #[.string s] w (fun e w' => ∃ A1 c1, e = .returned (.slice A1 1 c1) ∧ CmdR w x A1 c1 w' ∧ Below w.heap.size w w') := by
  have H := Lib.hid (readAll_any x s hs w)
  clear hs
  go_enter Tryz.func30, Tryz.ntmps30
  go_wp2_with (go_at_call 61
               refine H.out.mono ?_
               rintro e w2 ⟨A2, c2, n, rfl, hcm, hb⟩
               have HC := Lib.hid hcm; have HB := Lib.hid hb
               clear hcm hb)
  go_ret
  exact ⟨A2, c2, rfl, HC.out, HB.out⟩
theorem src_tQuine : SrcOk tQuine ⟨#[48, 61, 104, 48]⟩ := ⟨by kernel_rfl, by decide, by decide⟩
theorem src_tFix : SrcOk tFix ⟨#[48, 61, 40, 40, 104, 48, 46, 104, 48, 41, 46, 116, 48, 41]⟩ := ⟨by kernel_rfl, by decide, by decide⟩
theorem src_tPlain : SrcOk tPlain ⟨#[48, 61, 116, 48]⟩ := ⟨by kernel_rfl, by decide, by decide⟩
end Go.Proofs.YtaadobggenbbdaaGreatDoor
