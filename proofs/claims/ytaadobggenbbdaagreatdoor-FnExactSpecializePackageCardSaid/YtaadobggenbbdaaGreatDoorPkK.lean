/- Programs of one assignment read from their texts (program). -/
import Derived.Test.YtaadobggenbbdaaGreatDoorPkJ
import Derived.Laws.IdiomStrings
namespace Go.Proofs.YtaadobggenbbdaaGreatDoor
open Go.RowKit
set_option linter.unusedVariables false
set_option linter.unusedSimpArgs false
attribute [local go_sem ↓] Go.wp_at_zero Go.wp_at_succ
/-- What the reader leaves: the command of the text. -/
def WhP (w : World) (x : Tx) (A : Option Addr) (c : Nat) (w' : World) : Prop := RdC w' A 1 [x.cmd] ∧ 1 ≤ c ∧ Below w.heap.size w w'
set_option maxHeartbeats 4000000 in
set_option maxRecDepth 100000 in
theorem ReadWhile_any (x : Tx) (s : ByteArray) (hru : Conv.runesFrom s s.size 0 #[] = (runesV (48 :: 61 :: x.rn)).toArray) (hli : x.line = s) (hl : x.els.length ≤ 40) (hrl : x.rn.length ≤ 1000) (w : World) :
    Calls Tryz.prog 62 #[.string s] w (fun e w' => ∃ A c, e = .returned (.tuple #[.slice A 1 c, .bool true]) ∧ WhP w x A c w') := by
  have hcv0 := fun (w : World) => run_runes_of_string (P := Tryz.prog) w 9 116 21 s Tryz.underlying9 Tryz.underlying116 Tryz.underlying21 (by rw [hru]; simp; omega)
  rw [hru] at hcv0
  have hsz : (runesV (48 :: 61 :: x.rn)).toArray.size = x.rn.length + 2 := by simp
  rw [hsz] at hcv0
  have hcv := hcv0 w
  have hge : x.rn.length + 2 ≤ grownCap w (x.rn.length + 2) 0 21 := grownCap_ge w _ _ _
  generalize grownCap w (x.rn.length + 2) 0 21 = G at hcv hge
  obtain ⟨w1, hw1⟩ : ∃ w1, w1 = w.drew.alloc (.cells ((runesV (48 :: 61 :: x.rn)).toArray ++ Array.replicate (G - (x.rn.length + 2)) (.int .i32 0)) 21) := ⟨_, rfl⟩
  rw [← hw1] at hcv
  obtain ⟨w2, hw2⟩ : ∃ w2, w2 = w1.alloc (.cells #[.slice (some ⟨w.heap.size, 0, none⟩) (x.rn.length + 2) G, .bool false, .int .i64 3200] 118) := ⟨_, rfl⟩
  have hb1 : Below w.heap.size w w1 := by rw [hw1]; exact below_undrew (below_new w.drew _)
  have s1 : w1.heap.size = w.heap.size + 1 := by rw [hw1]; exact (show (w.drew.alloc _).heap.size = w.drew.heap.size + 1 by simp)
  have hb2 : Below w.heap.size w w2 := by rw [hw2]; exact hb1.alloc hb1.size _
  have hRd : Rd w1 (some ⟨w.heap.size, 0, none⟩) (x.rn.length + 2) (runesV (48 :: 61 :: x.rn)) := by
    refine ⟨by simp, fun _ => ⟨w.heap.size, 0, rfl, by omega, fun j u hu => ?_⟩⟩
    have hbx : w1.heap[w.heap.size]? = some (.cells ((runesV (48 :: 61 :: x.rn)).toArray ++ Array.replicate (G - (x.rn.length + 2)) (.int .i32 0)) 21 (0, 0)) := by rw [hw1]; exact box_new w.drew _ _
    rw [Nat.zero_add]
    refine blk_cell hbx j ?_
    have hj := (List.getElem?_eq_some_iff.1 hu).1
    rw [Array.getElem?_append_left (by simpa using hj)]
    simpa using hu
  have HR2 : Hid (Rdr w2 w1.heap.size (w.heap.size + 1) (some ⟨w.heap.size, 0, none⟩) (x.rn.length + 2) G (48 :: 61 :: x.rn) 3200) := Lib.hid ⟨by rw [hw2]; exact box_new _ _ _, by rw [hw2]; exact hRd.alloc _, fun _ b off e => by injection e with e; injection e with e1; omega, hge, fun b off _ e => by injection e with e; injection e with e1; omega⟩
  have HB2 := Lib.hid hb2
  have HS1 : Hid (w.heap.size ≤ w1.heap.size) := Lib.hid (by omega)
  have HLI := Lib.hid hli
  have HCM := Lib.hid (commands_any x w2 w1.heap.size (w.heap.size + 1) _ _ _ 3200 HR2.out (by omega) (by omega) (by rw [hw2]; simp; omega))
  have HLL := Lib.hid hl
  clear hru hcv0 hsz hge hb1 s1 hb2 hRd hli hrl hl hw1
  go_enter Tryz.func62, Tryz.ntmps62
  go_upto_region 2 with fail
  rw [← hw2]
  clear hw2 hcv
  go_upto_region 3 with (go_at_call 90
                         refine HCM.out.mono ?_
                         rintro e w3 ⟨A3, c3, rfl, hcm, ⟨A4, n4, c4, hr4⟩, hc3⟩
                         have HB3 : Hid (Below w.heap.size w w3) := Lib.hid (below_ch HB2.out hc3 (fun q e => by have e1 : q = w1.heap.size := e; have h1 := HS1.out; omega) HB2.out.size)
                         have HRC := Lib.hid (hcm.rdc (by have := HLL.out; omega))
                         have HC1 : Hid (1 ≤ c3) := Lib.hid (by obtain ⟨_, _, h, _⟩ := hcm; exact ownN_cap h)
                         have x1 := blk_cell hr4.box 1 rfl
                         clear hcm hr4 hc3)
  have HT := Lib.hid (WhileTextT_any w3 A3 c3 x HRC.out HC1.out HLL.out)
  go_wp2_with (go_at_call 91
               refine HT.out.mono ?_
               rintro e w4 ⟨rfl, hb4⟩
               rw [HLI.out]
               have HB4 := Lib.hid (bqcP hb4 HB3.out)
               have HRC4 := Lib.hid (HRC.out.below hb4 (Nat.le_refl _))
               clear hb4)
  go_ret2
  exact ⟨A3, c3, rfl, HRC4.out, HC1.out, HB4.out⟩
set_option maxHeartbeats 400000 in
theorem whileOf_any (x : Tx) (s : ByteArray) (hru : Conv.runesFrom s s.size 0 #[] = (runesV (48 :: 61 :: x.rn)).toArray) (hli : x.line = s) (hl : x.els.length ≤ 40) (hrl : x.rn.length ≤ 1000) (w : World) :
    Calls Tryz.prog 31 #[.string s] w (fun e w' => ∃ A c, e = .returned (.slice A 1 c) ∧ WhP w x A c w') := by
  have H := Lib.hid (ReadWhile_any x s hru hli hl hrl w)
  clear hru hli hl hrl
  go_enter Tryz.func31, Tryz.ntmps31
  go_wp2_with (go_at_call 62
               refine H.out.mono ?_
               rintro e w2 ⟨A2, c2, rfl, hw⟩
               have HW := Lib.hid hw
               clear hw)
  go_ret
  exact ⟨A2, c2, rfl, HW.out⟩
end Go.Proofs.YtaadobggenbbdaaGreatDoor
