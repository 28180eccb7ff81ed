/- The reader of programs: a text of one assignment (program). -/
import Derived.Test.YtaadobggenbbdaaGreatDoorPkF
import Derived.Test.YtaadobggenbbdaaGreatDoorPkT
import Derived.Test.YtaadobggenbbdaaGreatDoorGG
namespace Go.Proofs.YtaadobggenbbdaaGreatDoor
open Go.RowKit
set_option linter.unusedVariables false
set_option linter.unusedSimpArgs false
attribute [local go_sem ↓] Go.wp_at_zero Go.wp_at_succ
def Tx.cmd (x : Tx) : Cmd := ⟨0, 0, 0, x.els⟩
def sLenP : Value → Nat
  | .slice _ n _ => n
  | _ => 0
theorem Rdr.not {w : World} {g B n c B' e s m : Nat} {A : Option Addr} {rs : List Nat} {L : Int} {v : Value} {vs : List Value} (h : Rdr w g B A n c rs L) (ho : w.ownsRow B' e s v m vs) (hT : 118 ≠ e) : ¬ Fo v g := fun hf => by
  obtain ⟨cs, h1⟩ := own_foP ho hf
  exact blk_ne h.box h1 hT rfl
theorem Rdr.own {w w' : World} {g B n c B' e s m : Nat} {A : Option Addr} {rs : List Nat} {L : Int} {v : Value} {vs : List Value} (h : Rdr w g B A n c rs L) (ho : w.ownsRow B' e s v m vs) (hT : 118 ≠ e) (hc : Ch (· = g) w w') : w'.ownsRow B' e s v m vs := own_ch ho hc (fun q hq e => h.not ho hT (by rw [← (show q = g from e)]; exact hq))
/-- One command that has been read. -/
def CmdR (w : World) (x : Tx) (A1 : Option Addr) (c1 : Nat) (w' : World) : Prop :=
  ∃ Av cv, w'.ownsRow w.heap.size 53 4 (.slice A1 1 c1) 1 [.int .i64 0, .int .i64 0, .int .i64 0, .slice Av x.els.length cv] ∧ w'.ownsRow w.heap.size 98 2 (.slice Av x.els.length cv) x.els.length (ints (eNums x.els))
theorem CmdR.below {w w' w2 : World} {x : Tx} {A1 : Option Addr} {c1 : Nat} (h : CmdR w x A1 c1 w') (hb : Below w'.heap.size w' w2) : CmdR w x A1 c1 w2 := by
  obtain ⟨Av, cv, h1, h2⟩ := h
  exact ⟨Av, cv, ownN_below h1 hb (Nat.le_refl _), ownN_below h2 hb (Nat.le_refl _)⟩
def CmdP (w : World) (g B : Nat) (x : Tx) (L : Int) (e : Ending) (w' : World) : Prop :=
  ∃ A1 c1, e = .returned (.slice A1 1 c1) ∧ CmdR w x A1 c1 w' ∧ (∃ A n c, Rdr w' g B A n c [] (L - (x.els.length : Int))) ∧ Ch (· = g) w w'
def CmSt (w : World) (g B : Nat) (x : Tx) (L : Int) (v : Value) (wr : World) : Prop :=
  (v = .slice (some ⟨w.heap.size, 0, none⟩) 0 0 ∧ (∃ A n c, Rdr wr g B A n c (48 :: 61 :: x.rn) L) ∧ wr.ownsRow w.heap.size 53 4 (.slice (some ⟨w.heap.size, 0, none⟩) 0 0) 0 [] ∧ Ch (· = g) w wr) ∨
  (∃ A1 c1, v = .slice A1 1 c1 ∧ CmdR w x A1 c1 wr ∧ (∃ A n c, Rdr wr g B A n c [] (L - (x.els.length : Int))) ∧ Ch (· = g) w wr)
set_option maxHeartbeats 8000000 in
set_option maxRecDepth 100000 in
theorem commands_any (x : Tx) (w : World) (g B : Nat) (A : Option Addr) (n c : Nat) (L : Int) (h : Rdr w g B A n c (48 :: 61 :: x.rn) L) (hL : (x.els.length : Int) ≤ L) (hL2 : L ≤ 100000) (hB : B ≤ w.heap.size) :
    Calls Tryz.prog 90 #[.pointer (some ⟨g, 0, none⟩)] w (CmdP w g B x L) := by
  obtain ⟨w1, hw1⟩ : ∃ w1, w1 = w.alloc (.cells #[] 53) := ⟨_, rfl⟩
  have hb1 : Below w.heap.size w w1 := by rw [hw1]; exact below_new _ _
  have HST : Hid (CmSt w g B x L (.slice (some ⟨w.heap.size, 0, none⟩) 0 0) w1) := Lib.hid (.inl ⟨rfl, ⟨A, n, c, h.below hb1⟩, by rw [hw1]; exact ownN_lit w #[] 0 4 53 rfl (by omega), ch_below hb1⟩)
  have HL := Lib.hid hL; have HL2 := Lib.hid hL2; have HB := Lib.hid hB
  have HGL : Hid (g < w.heap.size) := Lib.hid h.lt
  clear h hL hL2 hB hb1
  go_enter Tryz.func90, Tryz.ntmps90
  go_upto_region 2 with fail
  rw [← hw1]
  clear hw1
  go_loopw [3] (fun v wr => Hid (CmSt w g B x L v wr)) (fun v _ => 1 - sLenP v)
  case atStart => exact HST
  case round =>
    clear HST
    rcases hrel.out with ⟨rfl, ⟨A0, n0, c0, hr0⟩, ho0, hc0⟩ | ⟨A1, c1, rfl, hcm, ⟨A0, n0, c0, hr0⟩, hc0⟩
    · skip
      have HR0 := Lib.hid hr0; have HO0 := Lib.hid ho0; have HC0 := Lib.hid hc0
      clear hrel hr0 ho0 hc0
      have HPK := Lib.hid (peek_any wr g B _ _ _ _ _ _ HR0.out)
      have HT := Lib.hid (take_any wr g B _ _ _ _ _ _ HR0.out (by decide))
      have x1 := blk_cell HR0.out.box 1 rfl
      go_upto_region 3 with (go_at_call 114; refine HPK.out.mono ?_; rintro e w' ⟨rfl, rfl⟩)
      clear x1
      go_upto_region 4 with (go_at_call 115
                             refine HT.out.mono ?_
                             rintro e w2 ⟨rfl, ⟨A2, n2, c2, hr⟩, hc⟩
                             have HR2 := Lib.hid hr
                             have HO2 := Lib.hid (HR0.out.own HO0.out (by decide) hc)
                             have HC2 : Hid (Ch (· = g) w w2) := Lib.hid (HC0.out.trans hc)
                             clear hr hc)
      have HD := Lib.hid (digit_any w2 g B _ _ _ _ _ HR2.out)
      go_upto_region 6 with (go_at_call 118
                             refine HD.out.mono ?_
                             rintro e w3 ⟨rfl, hr, hc⟩
                             have HR3 := Lib.hid hr
                             have HO3 := Lib.hid (HR2.out.own HO2.out (by decide) hc)
                             have HC3 : Hid (Ch (· = g) w w3) := Lib.hid (HC2.out.trans hc)
                             clear hr hc)
      have HT2 := Lib.hid (take_any w3 g B _ _ _ _ _ _ HR3.out (by decide))
      go_upto_region 7 with (go_at_call 115
                             refine HT2.out.mono ?_
                             rintro e w4 ⟨rfl, ⟨A4, n4, c4, hr⟩, hc⟩
                             have HR4 : Hid (Rdr w4 g B A4 n4 c4 (x.rn ++ []) L) := Lib.hid (by rw [List.append_nil]; exact hr)
                             have HO4 := Lib.hid (HR3.out.own HO3.out (by decide) hc)
                             have HC4 : Hid (Ch (· = g) w w4) := Lib.hid (HC3.out.trans hc)
                             clear hr hc)
      have HE := Lib.hid (expr_any x w4 g B A4 n4 c4 [] L HR4.out HL.out HL2.out (Nat.le_trans HB.out HC4.out.size))
      go_wp2_with (first
        | (go_at_call 116
           refine HE.out.mono ?_
           rintro e w5 ⟨A5, c5, A6, n6, c6, rfl, ho, hr, hc⟩
           have HV5 := Lib.hid (ownN_base ho HC4.out.size)
           have HR5 := Lib.hid hr
           have HO5 := Lib.hid (HR4.out.own HO4.out (by decide) hc)
           have HC5 : Hid (Ch (· = g) w w5) := Lib.hid (HC4.out.trans hc)
           have HZ5 : Hid (w.heap.size ≤ w5.heap.size) := Lib.hid HC5.out.size
           clear ho hr hc)
        | (at_builtin; go_must (refine wpList_app1N eltCm rfl _ _ rfl w5 w.heap.size (.slice (some ⟨w.heap.size, 0, none⟩) 0 0) 0 [] (by rfl) HO5.out #[.int .i64 0, .int .i64 0, .int .i64 0, .slice A5 x.els.length c5] rfl (by intro y hy; simp at hy; rcases hy with rfl | rfl <;> rfl) (by rfl) HZ5.out (by omega) ?_); rintro A7 c7 w7 ho7 hb7 hg7
           have HO7 := Lib.hid ho7
           have HV7 := Lib.hid (own_ch HV5.out (ch_row hg7) (fun q h1 h2 => own_types HV5.out HO5.out (by decide) q h1 h2))
           have HR7 := Lib.hid ((HR5.out.row (B' := w.heap.size) HO5.out hg7 (by decide) HB.out))
           have HC7 : Hid (Ch (· = g) w w7) := Lib.hid ⟨hg7.os.trans HC5.out.os, hg7.tape.trans HC5.out.tape, hg7.output.trans HC5.out.output, Nat.le_trans HC5.out.size hg7.size, fun q hq hn => (hg7.block q (Nat.lt_of_lt_of_le hq HC5.out.size) (fun e => by have h1 := (HO5.out.lt q e.symm).1; omega)).trans (HC5.out.block q hq hn)⟩
           clear ho7 hb7 hg7))
      go_roundw
      case rel => exact Lib.hid (.inr ⟨A7, c7, rfl, ⟨A5, c5, HO7.out, HV7.out⟩, ⟨_, _, _, HR7.out⟩, HC7.out⟩)
      case measure => simp [sLenP]
    · skip
      have HR0 := Lib.hid hr0; have HCM := Lib.hid hcm; have HC0 := Lib.hid hc0
      clear hrel hr0 hcm hc0
      have HPK := Lib.hid (peek0_any wr g B _ _ _ _ HR0.out)
      go_wp2_with (go_at_call 114; refine HPK.out.mono ?_; rintro e w' ⟨rfl, rfl⟩)
      go_ret
      exact ⟨A1, c1, rfl, HCM.out, ⟨_, _, _, HR0.out⟩, HC0.out⟩
end Go.Proofs.YtaadobggenbbdaaGreatDoor
