/- Programs of one assignment out of their texts (program). -/
import Derived.Test.YtaadobggenbbdaaGreatDoorPkH
import Derived.Test.YtaadobggenbbdaaGreatDoorGH
namespace Go.Proofs.YtaadobggenbbdaaGreatDoor
open Go.RowKit
set_option linter.unusedVariables false
set_option linter.unusedSimpArgs false
attribute [local go_sem ↓] Go.wp_at_zero Go.wp_at_succ
/-- A slice that reads as the command of a text. -/
def RdK (w : World) (A : Option Addr) (c : Nat) (x : Tx) : Prop := RdC w A 1 [x.cmd] ∧ 1 ≤ c
theorem CmdR.rdc {w w' : World} {x : Tx} {A1 : Option Addr} {c1 : Nat} (h : CmdR w x A1 c1 w') (hl : x.els.length ≤ 1000) : RdC w' A1 1 [x.cmd] := by
  obtain ⟨Av, cv, h1, h2⟩ := h
  have h3 : InnerC w' (fun k => Fo (.slice Av x.els.length cv) k) [.slice Av x.els.length cv] [x.cmd] := InnerC.one (x := x.cmd) h2 (by omega) (fun k hk => hk)
  exact h3.rdc (ownN_rd h1)
set_option maxHeartbeats 4000000 in
set_option maxRecDepth 100000 in
theorem blocksT_any (w0 w : World) (hb0 : Below w0.heap.size w0 w) (A : Option Addr) (c : Nat) (x : Tx) (hr : RdC w0 A 1 [x.cmd]) (hc : 1 ≤ c) (hl : x.els.length ≤ 1000) (B : Nat) (hls : LsB w w0.heap.size B 0 []) :
    Calls Tryz.prog 124 #[.slice A 1 c, .func (.func 135) #[] #[.pointer (some ⟨B, 0, none⟩)]] w (fun e w' => e = .returned (.tuple #[]) ∧ LsB w' w0.heap.size B 1 [.string x.line] ∧ Below w0.heap.size w0 w') := by
  obtain ⟨b, off, A', n', c', rfl, hbs, q0, q1, q2, q3, hn', hc', hre⟩ := hr.at_ (k := 0) (x := x.cmd) rfl
  simp only [Nat.zero_mul, Nat.add_zero, Tx.cmd] at q0 q1 q2 q3 hre
  have hn1000 : n' ≤ 1000 := by have := rdE_len hre; omega
  have HLS := Lib.hid hls; have HB0 := Lib.hid hb0
  have HQ := Lib.hid (And.intro q0 (And.intro q1 (And.intro q2 q3)))
  have HBS := Lib.hid hbs
  have HE := Lib.hid (And.intro hre (And.intro hn1000 hc'))
  clear hr hls hb0 q0 q1 q2 q3 hre hn1000 hn' hc' hl hbs
  go_enter Tryz.func124, Tryz.ntmps124
  go_wp2_with fail
  go_loopw [4] (fun q wr => (q = .int .i64 0 ∧ Hid (LsB wr w0.heap.size B 0 []) ∧ Hid (Below w0.heap.size w0 wr)) ∨ (q = .int .i64 1 ∧ Hid (LsB wr w0.heap.size B 1 [.string x.line]) ∧ Hid (Below w0.heap.size w0 wr))) (fun q _ => 1 - (intOf q).toNat)
  case atStart => exact .inl ⟨rfl, HLS, HB0⟩
  case round =>
    clear HLS HB0
    rcases hrel with ⟨rfl, HL, HB⟩ | ⟨rfl, HL, HB⟩
    · skip
      have q0 := (HB.out.cell (p := ⟨b, off, none⟩) HBS.out).trans HQ.out.1
      have q1 := (HB.out.cell (p := ⟨b, off + 1, none⟩) HBS.out).trans HQ.out.2.1
      have q2 := (HB.out.cell (p := ⟨b, off + 2, none⟩) HBS.out).trans HQ.out.2.2.1
      have q3 := (HB.out.cell (p := ⟨b, off + 3, none⟩) HBS.out).trans HQ.out.2.2.2
      have HCL := Lib.hid (fun (Ab : Value) => textClo_any wr w0.heap.size B x A' n' c' Ab HL.out (HE.out.1.below HB.out (Nat.le_refl _)) HE.out.2.1 HE.out.2.2 HB.out.size)
      have g2 : (1 : Int) ≤ (c : Int) := by omega
      by_cases hck : c = 1
      · skip
        subst hck
        go_wp2_with (go_at_call 135
                     refine (HCL.out _).mono ?_
                     rintro e w2 ⟨rfl, hl2, hb2⟩
                     have HL2 := Lib.hid hl2
                     have HB2 := Lib.hid (HB.out.trans hb2)
                     clear hl2 hb2)
        go_roundw
        case rel => exact .inr ⟨by go_num, HL2, HB2⟩
        case measure => simp [intOf]
      · skip
        have g3 : 1 < c := by omega
        go_wp2_with (go_at_call 135
                     refine (HCL.out _).mono ?_
                     rintro e w2 ⟨rfl, hl2, hb2⟩
                     have HL2 := Lib.hid hl2
                     have HB2 := Lib.hid (HB.out.trans hb2)
                     clear hl2 hb2)
        go_roundw
        case rel => exact .inr ⟨by go_num, HL2, HB2⟩
        case measure => simp [intOf]
    · skip
      go_wp2_with fail
      go_end0
      exact ⟨rfl, HL.out, HB.out⟩
set_option maxHeartbeats 1000000 in
theorem joinOne_any (w : World) (A : Option Addr) (c : Nat) (s : ByteArray) (sep : Value) (hr : Rd w A 1 [.string s]) : Calls Tryz.prog 138 #[.slice A 1 c, sep] w fun e w' => e = .returned (.string s) ∧ w = w' := by
  obtain ⟨b, off, rfl, hb, hc⟩ := hr.2 (by omega)
  have q0 := hc 0 _ rfl
  rw [Nat.add_zero] at q0
  clear hc hr
  go_enter Tryz.func138, Tryz.ntmps138
  go_wp2_with fail
  go_ret
  exact ⟨rfl, rfl⟩
set_option maxHeartbeats 2000000 in
theorem whileTextT_any (w : World) (A : Option Addr) (c : Nat) (x : Tx) (hr : RdC w A 1 [x.cmd]) (hc : 1 ≤ c) (hl : x.els.length ≤ 1000) :
    Calls Tryz.prog 119 #[.slice A 1 c] w (RetV w (.string x.line)) := by
  obtain ⟨wa, hwa⟩ : ∃ wa, wa = w.alloc (.cells #[] 9) := ⟨_, rfl⟩
  obtain ⟨w1, hw1⟩ : ∃ w1, w1 = wa.alloc (.cells #[.slice (some ⟨w.heap.size, 0, none⟩) 0 0] 164) := ⟨_, rfl⟩
  have hba : Below w.heap.size w wa := by rw [hwa]; exact below_new _ _
  have hb1 : Below w.heap.size w w1 := by rw [hw1]; exact hba.alloc hba.size _
  have sa : wa.heap.size = w.heap.size + 1 := by rw [hwa]; simp
  have hls : LsB w1 w.heap.size (w.heap.size + 1) 0 [] := by
    refine ⟨some ⟨w.heap.size, 0, none⟩, 0, ?_, ?_, by omega⟩
    · rw [hw1, ← sa]; exact box_new _ _ _
    · rw [hw1]
      have h := own_lit w #[] 0 9 rfl (by omega)
      rw [← hwa] at h
      exact own_below h (below_new _ _) (Nat.le_refl _)
  have HB := Lib.hid (blocksT_any w w1 hb1 A c x hr hc hl (w.heap.size + 1) hls)
  have hW : w1 = (w.alloc (.cells #[] 9)).alloc (.cells #[.slice (some ⟨w.heap.size, 0, none⟩) 0 0] 164) := by rw [hw1, hwa]
  clear hwa hw1 hba hb1 sa hls hr
  go_enter Tryz.func119, Tryz.ntmps119
  go_upto_region 2 with fail
  rw [← hW]
  clear hW
  go_upto_region 3 with (go_at_call 124
                         refine HB.out.mono ?_
                         rintro e w2 ⟨rfl, ⟨A2, c2, hx2, ho2, -⟩, hb2⟩
                         have HO2 := Lib.hid (own_rd ho2)
                         have HB2 := Lib.hid hb2
                         have x0 := blk_cell hx2 0 rfl
                         clear ho2 hb2 hx2)
  go_wp2_with (go_at_call 138; refine (joinOne_any _ _ _ _ _ HO2.out).mono ?_; rintro e w' ⟨rfl, rfl⟩)
  go_ret
  exact ⟨rfl, HB2.out⟩
theorem tx_isW {x : Tx} (h : x.els.length ≤ 40) : isW [x.cmd] = true := by
  have h1 : okC [x.cmd] = true := by
    rw [okC_set (Tx.wf h) rfl, okC_nil]; rfl
  simp [isW, h1]
set_option maxHeartbeats 1000000 in
theorem WhileTextT_any (w : World) (A : Option Addr) (c : Nat) (x : Tx) (hr : RdC w A 1 [x.cmd]) (hc : 1 ≤ c) (hl : x.els.length ≤ 40) :
    Calls Tryz.prog 91 #[.slice A 1 c] w (RetV w (.string x.line)) := by
  have H1 := ValidWhile_any w A 1 c [x.cmd] hr (by omega) hc
  rw [tx_isW hl] at H1
  replace H1 := Lib.hid H1
  have H2 := Lib.hid (fun (w2 : World) (hb : Below w.heap.size w w2) => whileTextT_any w2 A c x (hr.below hb (Nat.le_refl _)) hc (by omega))
  clear hr hc hl
  go_enter Tryz.func91, Tryz.ntmps91
  go_wp2_with (first
    | (go_at_call 39
       refine H1.out.mono ?_
       rintro e w2 ⟨rfl, hb2⟩
       have HB2 := Lib.hid hb2
       have H22 := Lib.hid (H2.out w2 hb2)
       clear hb2)
    | (go_at_call 119
       refine H22.out.mono ?_
       rintro e w3 ⟨rfl, hb3⟩
       have HB3 := Lib.hid (bqcP hb3 HB2.out)
       clear hb3))
  go_ret
  exact ⟨rfl, HB3.out⟩
def toBS (l : List Nat) : ByteArray := ⟨(l.map UInt8.ofNat).toArray⟩
/-- The text of an assignment. -/
abbrev Tx.src (x : Tx) : ByteArray := toBS (48 :: 61 :: x.rn)
end Go.Proofs.YtaadobggenbbdaaGreatDoor
