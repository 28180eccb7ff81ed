/- Programs read from their texts (program). -/
import Derived.Test.YtadmbphefpfbmaaGreatDoorPqJ
import Derived.Test.YtadmbphefpfbmaaGreatDoorPqU
import Derived.Laws.IdiomStrings
namespace Go.Proofs.YtadmbphefpfbmaaGreatDoor
open Go.RowKit
set_option linter.unusedVariables false
set_option linter.unusedSimpArgs false
attribute [local go_sem ↓] Go.wp_at_zero Go.wp_at_succ
/-- A text that is a program. -/
structure TxOk (p : Pg) (s : ByteArray) : Prop where
  bs : nm s = p.tx
  ru : Conv.runesFrom s s.size 0 #[] = (runesV p.tx).toArray
  ok : p.ok
  s1 : 1 ≤ p.sz
  s2 : p.sz ≤ 80
  tot : p.tot ≤ 3200
  len : p.tx.length ≤ 50000
theorem Pg.tl_len (p : Pg) : p.tl.length ≤ p.tx.length + 1 := by simp [Pg.tx]; omega
theorem Pg.tx_pos {p : Pg} (h : 1 ≤ p.sz) : 1 ≤ p.tx.length := by
  cases p with
  | nil => simp [Pg.sz] at h
  | set d x r => simp [Pg.tx, Pg.tl]
  | loop x b r => simp [Pg.tx, Pg.tl]
theorem TxOk.line {p : Pg} {s : ByteArray} (h : TxOk p s) : joinP p.parts = s := nm_inj ((Pg.nm_tail h.ok).2.trans h.bs.symm)
/-- What the reader leaves: the command of the text. -/
def WhQ (w : World) (p : Pg) (A : Option Addr) (c : Nat) (w' : World) : Prop := OutC w' w.heap.size A p.sz c p.cmds ∧ Below w.heap.size w w'
set_option maxHeartbeats 4000000 in
set_option maxRecDepth 100000 in
theorem ReadWhileY_any (p : Pg) (s : ByteArray) (hs : TxOk p s) (w : World) :
    Calls Tryz.prog 63 #[.string s] w (fun e w' => ∃ A c, e = .returned (.tuple #[.slice A p.sz c, .bool true]) ∧ WhQ w p A c w') := by
  have hru := hs.ru
  have hli := hs.line
  have hrl := hs.len
  have hcv0 := fun (w : World) => run_runes_of_string (P := Tryz.prog) w 9 145 21 s Tryz.underlying9 Tryz.underlying145 Tryz.underlying21 (by rw [hru]; simp; omega)
  rw [hru] at hcv0
  have hsz : (runesV p.tx).toArray.size = p.tx.length := by simp
  rw [hsz] at hcv0
  have hcv := hcv0 w
  have hge : p.tx.length ≤ grownCap w (p.tx.length) 0 21 := grownCap_ge w _ _ _
  generalize grownCap w (p.tx.length) 0 21 = G at hcv hge
  obtain ⟨w1, hw1⟩ : ∃ w1, w1 = w.drew.alloc (.cells ((runesV p.tx).toArray ++ Array.replicate (G - (p.tx.length)) (.int .i32 0)) 21) := ⟨_, rfl⟩
  rw [← hw1] at hcv
  obtain ⟨w2, hw2⟩ : ∃ w2, w2 = w1.alloc (.cells #[.slice (some ⟨w.heap.size, 0, none⟩) (p.tx.length) G, .bool false, .int .i64 3200] 147) := ⟨_, rfl⟩
  have hb1 : Below w.heap.size w w1 := by rw [hw1]; exact below_undrew (below_new w.drew _)
  have s1 : w1.heap.size = w.heap.size + 1 := by rw [hw1]; exact (show (w.drew.alloc _).heap.size = w.drew.heap.size + 1 by simp)
  have hb2 : Below w.heap.size w w2 := by rw [hw2]; exact hb1.alloc hb1.size _
  have hRd : Rd w1 (some ⟨w.heap.size, 0, none⟩) (p.tx.length) (runesV p.tx) := by
    refine ⟨by simp, fun _ => ⟨w.heap.size, 0, rfl, by omega, fun j u hu => ?_⟩⟩
    have hbx : w1.heap[w.heap.size]? = some (.cells ((runesV p.tx).toArray ++ Array.replicate (G - (p.tx.length)) (.int .i32 0)) 21 (0, 0)) := by rw [hw1]; exact box_new w.drew _ _
    rw [Nat.zero_add]
    refine blk_cell hbx j ?_
    have hj := (List.getElem?_eq_some_iff.1 hu).1
    rw [Array.getElem?_append_left (by simpa using hj)]
    simpa using hu
  have HR2 : Hid (Rdr w2 w1.heap.size (w.heap.size + 1) (some ⟨w.heap.size, 0, none⟩) (p.tx.length) G p.tx 3200) := Lib.hid ⟨by rw [hw2]; exact box_new _ _ _, by rw [hw2]; exact hRd.alloc _, fun _ b off e => by injection e with e; injection e with e1; omega, hge, fun b off _ e => by injection e with e; injection e with e1; omega⟩
  have HB2 := Lib.hid hb2
  have HS1 : Hid (w.heap.size ≤ w1.heap.size) := Lib.hid (by omega)
  have HLI := Lib.hid hli
  have HCM := Lib.hid (commandsY_any p.sz p (Nat.le_refl _) (by have := hs.s2; omega) hs.ok w2 w1.heap.size (w.heap.size + 1) _ _ _ [] 3200 (.inl rfl) (by rw [List.append_nil]; exact HR2.out) (by have := hs.tot; omega) (by omega) (by rw [hw2]; simp; omega))
  have HSS := Lib.hid hs
  clear hru hcv0 hsz hge hb1 s1 hb2 hRd hli hrl hs hw1
  go_enter Tryz.func63, Tryz.ntmps63
  go_upto_region 2 with fail
  rw [← hw2]
  clear hw2 hcv
  go_upto_region 3 with (go_at_call 97
                         refine HCM.out.mono ?_
                         rintro e w3 ⟨A3, c3, rfl, hcm, ⟨A4, n4, c4, hr4⟩, hc3⟩
                         have HB3 : Hid (Below w.heap.size w w3) := Lib.hid (below_ch HB2.out hc3 (fun q e => by have e1 : q = w1.heap.size := e; have h1 := HS1.out; omega) HB2.out.size)
                         have HCO := Lib.hid hcm
                         have HC1 : Hid (p.sz ≤ c3) := Lib.hid hcm.cap
                         have x1 := blk_cell hr4.box 1 rfl
                         clear hcm hr4 hc3)
  have HT := Lib.hid (WhileTextY_any p HSS.out.ok HSS.out.s2 (by have := HSS.out.len; have := p.tl_len; omega) w3 A3 c3 HCO.out.rdc HC1.out)
  have HPS : Hid (1 ≤ p.sz ∧ p.sz ≤ 80) := Lib.hid ⟨HSS.out.s1, HSS.out.s2⟩
  obtain ⟨pn, hpn⟩ : ∃ pn, pn = p.sz := ⟨_, rfl⟩
  rw [← hpn] at HT HPS HCO ⊢
  have HPN := Lib.hid hpn
  have i0 : ¬ (pn : Int) = 0 := by have := HPS.out; omega
  have i1 : ((pn : Int) == 0) = false := by rw [beq_eq_false_iff_ne]; exact i0
  have i2 : ¬ pn = 0 := by omega
  clear hpn
  go_wp2_with (go_at_call 98
               refine HT.out.mono ?_
               rintro e w4 ⟨rfl, hb4⟩
               rw [HLI.out]
               have HB4 := Lib.hid (bqcP hb4 HB3.out)
               have HCO4 := Lib.hid (HCO.out.below hb4)
               clear hb4)
  go_ret2
  have h9 := HCO4.out
  rw [HPN.out] at h9 ⊢
  exact ⟨A3, c3, rfl, ⟨by obtain ⟨us, h1, h2⟩ := h9; exact ⟨us, ownN_base h1 HB2.out.size, h2⟩, HB4.out⟩⟩
set_option maxHeartbeats 400000 in
theorem whileOfY_any (p : Pg) (s : ByteArray) (hs : TxOk p s) (w : World) :
    Calls Tryz.prog 32 #[.string s] w (fun e w' => ∃ A c, e = .returned (.slice A p.sz c) ∧ WhQ w p A c w') := by
  have H := Lib.hid (ReadWhileY_any p s hs w)
  clear hs
  go_enter Tryz.func32, Tryz.ntmps32
  go_wp2_with (go_at_call 63
               refine H.out.mono ?_
               rintro e w2 ⟨A2, c2, rfl, hw⟩
               have HW := Lib.hid hw
               clear hw)
  go_ret
  exact ⟨A2, c2, rfl, HW.out⟩
end Go.Proofs.YtadmbphefpfbmaaGreatDoor
