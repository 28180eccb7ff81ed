/- The reader of programs: commands (program). -/
import Derived.Test.YtadmbphefpfbmaaGreatDoorPqF
import Derived.Test.YtadmbphefpfbmaaGreatDoorGK
namespace Go.Proofs.YtadmbphefpfbmaaGreatDoor
open Go.RowKit
set_option linter.unusedVariables false
set_option linter.unusedSimpArgs false
attribute [local go_sem ↓] Go.wp_at_zero Go.wp_at_succ
def rLen (w : World) (g : Nat) : Nat := match w.cell? ⟨g, 0, none⟩ with
  | some v => sLenP v
  | none => 0
theorem Rdr.rl {w : World} {g B n c : Nat} {A : Option Addr} {rs : List Nat} {L : Int} (h : Rdr w g B A n c rs L) : rLen w g = rs.length := by
  unfold rLen
  rw [blk_cell h.box 0 rfl, h.len]
  rfl
theorem Rdr.less {w w' : World} {g B n c n' c' : Nat} {A A' : Option Addr} {rs rs' : List Nat} {L L' : Int} (h : Rdr w g B A n c rs L) (h' : Rdr w' g B A' n' c' rs' L') (hl : rs'.length < rs.length) : rLen w' g < rLen w g := by
  rw [h.rl, h'.rl]; exact hl
theorem Rdr.tyE {w : World} {g B n c : Nat} {A : Option Addr} {rs : List Nat} {L : Int} (h : Rdr w g B A n c rs L) : ∀ q, q = g → ∀ ds, w.heap[q]? = some (.cells ds 110 (0, 0)) → False := fun q e ds hd => by
  subst e
  exact blk_ne h.box hd (by decide) rfl
theorem InnR.app {w : World} {us vs : List Value} {cs ds : List Cmd} (h : InnR w us cs) (h2 : InnR w vs ds) : InnR w (us ++ vs) (cs ++ ds) := by
  refine ⟨by simp [h.1, h2.1], fun i u y hu hy => ?_⟩
  by_cases hi : i < us.length
  · rw [List.getElem?_append_left hi] at hu
    rw [List.getElem?_append_left (by rw [← h.1]; exact hi)] at hy
    exact h.2 i u y hu hy
  · rw [List.getElem?_append_right (by omega)] at hu
    rw [List.getElem?_append_right (by rw [← h.1]; omega), ← h.1] at hy
    exact h2.2 _ u y hu hy
/-- A row of commands of the call's own, each expression in a row of its own. -/
def OutC (w : World) (base : Nat) (A : Option Addr) (n c : Nat) (cs : List Cmd) : Prop := ∃ us, w.ownsRow base 44 4 (.slice A n c) n (flatC cs us) ∧ InnR w us cs
theorem OutC.rdc {w : World} {base n c : Nat} {A : Option Addr} {cs : List Cmd} (h : OutC w base A n c cs) : RdC w A n cs := by
  obtain ⟨us, h1, h2⟩ := h
  exact h2.rdc (ownN_rd h1)
theorem OutC.len {w : World} {base n c : Nat} {A : Option Addr} {cs : List Cmd} (h : OutC w base A n c cs) : cs.length = n := h.rdc.len
theorem OutC.cap {w : World} {base n c : Nat} {A : Option Addr} {cs : List Cmd} (h : OutC w base A n c cs) : n ≤ c := by
  obtain ⟨us, h1, h2⟩ := h
  exact ownN_cap h1
theorem OutC.below {w w' : World} {base n c : Nat} {A : Option Addr} {cs : List Cmd} (h : OutC w base A n c cs) (hb : Below w.heap.size w w') : OutC w' base A n c cs := by
  obtain ⟨us, h1, h2⟩ := h
  exact ⟨us, ownN_below h1 hb (Nat.le_refl _), h2.below hb⟩
theorem OutC.rdr {w w' : World} {base n c : Nat} {A : Option Addr} {cs : List Cmd} {g B n' c' : Nat} {A' : Option Addr} {rs : List Nat} {L : Int} (h : OutC w base A n c cs) (hr : Rdr w g B A' n' c' rs L) (hc : Ch (· = g) w w') : OutC w' base A n c cs := by
  obtain ⟨us, h1, h2⟩ := h
  exact ⟨us, hr.own h1 (by decide) hc, h2.ch hc hr.tyE⟩
theorem InnR.grow {w w' : World} {base n c : Nat} {A : Option Addr} {vs us : List Value} {cs : List Cmd} (h : InnR w us cs) (ho : w.ownsRow base 44 4 (.slice A n c) n vs) (hg : w.grownBy w' (Value.ownBlock (.slice A n c))) : InnR w' us cs :=
  h.ch (ch_row hg) (fun q e ds hd => by
    obtain ⟨es, h1⟩ := own_foP ho (show Fo _ q from e)
    exact blk_ne h1 hd (by decide) rfl)
theorem OutC.app1 {w w' : World} {base n c c' b' k c5 : Nat} {A A' A5 : Option Addr} {us : List Value} {cs : List Cmd} {x : Cmd} (ho : w.ownsRow base 44 4 (.slice A n c) n (flatC cs us)) (hi : InnR w us cs) (hv : w.ownsRow b' 110 2 (.slice A5 k c5) k (ints (eNums x.e))) (hk : k ≤ 1000000000)
    (ho' : w'.ownsRow base 44 4 (.slice A' (n + 1) c') (n + 1) (flatC cs us ++ [.int .i64 x.k, .int .i64 x.v, .int .i64 x.l, .slice A5 k c5])) (hg : w.grownBy w' (Value.ownBlock (.slice A n c))) : OutC w' base A' (n + 1) c' (cs ++ [x]) := by
  have hv' := own_ch hv (ch_row hg) (fun q h1 h2 => own_types hv ho (by decide) q h1 h2)
  refine ⟨us ++ [.slice A5 k c5], ?_, (hi.grow ho hg).snoc hk (ownN_cap hv') (ownN_base hv' (Nat.zero_le _))⟩
  rw [flatC_append _ _ _ _ hi.1]
  exact ho'
theorem OutC.appS {w w' : World} {base n c n' c' : Nat} {A A' : Option Addr} {us vs : List Value} {cs ds : List Cmd} (ho : w.ownsRow base 44 4 (.slice A n c) n (flatC cs us)) (hi : InnR w us cs) (hj : InnR w vs ds)
    (ho' : w'.ownsRow base 44 4 (.slice A' n' c') n' (flatC cs us ++ flatC ds vs)) (hg : w.grownBy w' (Value.ownBlock (.slice A n c))) : OutC w' base A' n' c' (cs ++ ds) := by
  refine ⟨us ++ vs, ?_, (hi.grow ho hg).app (hj.grow ho hg)⟩
  rw [flatC_append _ _ _ _ hi.1]
  exact ho'
theorem chg_row {w w5 w7 : World} {g e s n c : Nat} {A : Option Addr} {vs : List Value} (h : Ch (· = g) w w5) (ho : w5.ownsRow w.heap.size e s (.slice A n c) n vs) (hg : w5.grownBy w7 (Value.ownBlock (.slice A n c))) : Ch (· = g) w w7 :=
  ⟨hg.os.trans h.os, hg.tape.trans h.tape, hg.output.trans h.output, Nat.le_trans h.size hg.size, fun q hq hn => (hg.block q (Nat.lt_of_lt_of_le hq h.size) (fun e => by have h1 := (ho.lt q e.symm).1; omega)).trans (h.block q hq hn)⟩
theorem one4V (a b c : Int) (A : Option Addr) (n m : Nat) : ∀ y ∈ (#[.int .i64 a, .int .i64 b, .int .i64 c, .slice A n m] : Array Value).toList, y.oneCell' = true := by
  intro y hy
  simp only [List.mem_cons, List.not_mem_nil, or_false] at hy
  rcases hy with rfl | rfl | rfl | rfl <;> rfl
def CmQ (w : World) (g B : Nat) (p : Pg) (rest : List Nat) (L : Int) (e : Ending) (w' : World) : Prop :=
  ∃ A c, e = .returned (.slice A p.sz c) ∧ OutC w' w.heap.size A p.sz c p.cmds ∧ (∃ A n c, Rdr w' g B A n c rest (L - (p.tot : Int))) ∧ Ch (· = g) w w'
def CmS2 (w : World) (g B : Nat) (p : Pg) (rest : List Nat) (L : Int) (v : Value) (wr : World) : Prop :=
  ∃ (q : Pg) (b : Bool) (cs : List Cmd) (A : Option Addr) (m c : Nat) (A0 : Option Addr) (n0 c0 : Nat), v = .slice A m c ∧ OutC wr w.heap.size A m c cs ∧ p.cmds = cs ++ q.cmds ∧ q.ok ∧ q.sz ≤ p.sz ∧ Rdr wr g B A0 n0 c0 ((if b then q.tx else q.tl) ++ rest) (L - (p.tot : Int) + (q.tot : Int)) ∧ q.tot ≤ p.tot ∧ Ch (· = g) w wr
def CmCon (p : Pg) : Prop := ∀ (w : World) (g B : Nat) (A : Option Addr) (n c : Nat) (rest : List Nat) (L : Int), (rest = [] ∨ ∃ r', rest = 125 :: r') → Rdr w g B A n c (p.tx ++ rest) L → (p.tot : Int) ≤ L → L ≤ 100000 → B ≤ w.heap.size →
    Calls Tryz.prog 97 #[.pointer (some ⟨g, 0, none⟩)] w (CmQ w g B p rest L)
set_option maxHeartbeats 8000000 in
set_option maxRecDepth 100000 in
theorem commandsY_step (p : Pg) (hok : p.ok) (hsz : p.sz ≤ 1000) (ih : ∀ b : Pg, b.sz < p.sz → b.ok → CmCon b) : CmCon p := by
  intro w g B A n c rest L hrest h hL hL2 hB
  obtain ⟨w1, hw1⟩ : ∃ w1, w1 = w.alloc (.cells #[] 44) := ⟨_, rfl⟩
  have hb1 : Below w.heap.size w w1 := by rw [hw1]; exact below_new _ _
  have HST : Hid (CmS2 w g B p rest L (.slice (some ⟨w.heap.size, 0, none⟩) 0 0) w1) := Lib.hid ⟨p, true, [], _, _, _, A, n, c, rfl, ⟨[], by rw [hw1]; exact ownN_lit w #[] 0 4 44 rfl (by omega), ⟨rfl, by simp⟩⟩, rfl, hok, Nat.le_refl _, by have h9 := h.below hb1; rw [show L - (p.tot : Int) + (p.tot : Int) = L by omega]; exact h9, Nat.le_refl _, ch_below hb1⟩
  have HL := Lib.hid hL; have HL2 := Lib.hid hL2; have HB := Lib.hid hB
  have HGL : Hid (g < w.heap.size) := Lib.hid h.lt
  have HRS := Lib.hid hrest; have HIH := Lib.hid ih; have HSZ := Lib.hid hsz
  clear h hL hL2 hB hb1 hrest ih hsz hok
  go_enter Tryz.func97, Tryz.ntmps97
  go_upto_region 2 with fail
  rw [← hw1]
  clear hw1
  go_loopw [3] (fun v wr => Hid (CmS2 w g B p rest L v wr)) (fun _ wr => rLen wr g)
  case atStart => exact HST
  case round =>
    clear HST
    obtain ⟨q, b, cs, A1, m, c1, A0, n0, c0, rfl, ho0, hcs, hqok, hqsz, hr0, hqt, hc0⟩ := hrel.out
    have HO0 := Lib.hid ho0; have HCS := Lib.hid hcs; have HC0 := Lib.hid hc0; have HQT := Lib.hid hqt; have HQZ := Lib.hid hqsz
    have HM : Hid (m ≤ 1000) := Lib.hid (by have h1 := ho0.len; have h2 := p.cmds_len; have h3 := HSZ.out; rw [hcs, List.length_append] at h2; omega)
    clear hrel ho0 hcs hc0 hqt hqsz
    have hnil : q = .nil ∨ q ≠ .nil := by cases q <;> simp
    rcases hnil with rfl | hq
    · have hr1 : Rdr wr g B A0 n0 c0 rest (L - (p.tot : Int)) := by
        have e : (if b = true then Pg.nil.tx else Pg.nil.tl) = [] := by cases b <;> rfl
        rw [e] at hr0
        simpa [Pg.tot] using hr0
      have HR1 := Lib.hid hr1
      have HE : Hid (p.cmds = cs ∧ m = p.sz) := Lib.hid (by
        have h1 := HCS.out
        simp only [Pg.cmds, List.append_nil] at h1
        refine ⟨h1, ?_⟩
        have h2 := HO0.out.len
        rw [← h1, p.cmds_len] at h2
        exact h2.symm)
      clear hr0 hr1 hqok
      rcases HRS.out with e | ⟨r', e⟩
      · have HPK : Hid (Calls Tryz.prog 136 #[.pointer (some ⟨g, 0, none⟩)] wr fun e w' => e = .returned (.int .i32 0) ∧ wr = w') := Lib.hid (by have h9 := HR1.out; rw [e] at h9; exact peek0_any wr g B _ _ _ _ h9)
        clear e
        go_wp2_with (go_at_call 136; refine HPK.out.mono ?_; rintro e w' ⟨rfl, rfl⟩)
        go_ret
        have h1 := HO0.out
        rw [← HE.out.1, HE.out.2] at h1
        rw [HE.out.2]
        exact ⟨A1, c1, rfl, h1, ⟨_, _, _, HR1.out⟩, HC0.out⟩
      · have HPK : Hid (Calls Tryz.prog 136 #[.pointer (some ⟨g, 0, none⟩)] wr fun e w' => e = .returned (.int .i32 125) ∧ wr = w') := Lib.hid (by have h9 := HR1.out; rw [e] at h9; exact peek_any wr g B _ _ _ _ _ _ h9)
        clear e
        go_wp2_with (go_at_call 136; refine HPK.out.mono ?_; rintro e w' ⟨rfl, rfl⟩)
        go_ret
        have h1 := HO0.out
        rw [← HE.out.1, HE.out.2] at h1
        rw [HE.out.2]
        exact ⟨A1, c1, rfl, h1, ⟨_, _, _, HR1.out⟩, HC0.out⟩
    · cases b with
      | false =>
        have HR0 : Hid (Rdr wr g B A0 n0 c0 (59 :: (q.tx ++ rest)) (L - (p.tot : Int) + (q.tot : Int))) := Lib.hid (by
          rcases q.tl_tx with e | e
          · exact absurd e hq
          · simpa [e] using hr0)
        have HQK := Lib.hid hqok
        clear hr0 hqok hq
        have HPK := Lib.hid (peek_any wr g B _ _ _ _ _ _ HR0.out)
        have HT := Lib.hid (take_any wr g B _ _ _ _ _ _ HR0.out (by decide))
        have x1 := blk_cell HR0.out.box 1 rfl
        go_upto_region 3 with (go_at_call 136; refine HPK.out.mono ?_; rintro e w' ⟨rfl, rfl⟩)
        clear x1
        go_wp2_with (go_at_call 137
                     refine HT.out.mono ?_
                     rintro e w2 ⟨rfl, ⟨A2, n2, c2, hr⟩, hc⟩
                     have HR2 := Lib.hid hr
                     have HO2 := Lib.hid (HO0.out.rdr HR0.out hc)
                     have HC2 : Hid (Ch (· = g) w w2) := Lib.hid (HC0.out.trans hc)
                     clear hr hc)
        go_roundw
        case rel => exact Lib.hid ⟨q, true, cs, A1, m, c1, A2, n2, c2, rfl, HO2.out, HCS.out, HQK.out, HQZ.out, HR2.out, HQT.out, HC2.out⟩
        case measure => exact HR0.out.less HR2.out (by simp)
      | true =>
        cases q with
        | nil => exact absurd rfl hq
        | set d x r =>
          obtain ⟨hd, hx, hxl, hrok⟩ := hqok
          obtain ⟨rr, hrr⟩ : ∃ rr, rr = 48 + d := ⟨_, rfl⟩
          have HR0 : Hid (Rdr wr g B A0 n0 c0 (rr :: 61 :: (x.rn ++ (r.tl ++ rest))) (L - (p.tot : Int) + (x.els.length : Int) + (r.tot : Int))) := Lib.hid (by
            rw [hrr]
            have h9 := hr0
            simp only [Pg.tx, Pg.tl, List.drop_succ_cons, List.drop_zero, if_true, Pg.tot, List.cons_append, List.append_assoc] at h9
            rw [show L - (p.tot : Int) + (x.els.length : Int) + (r.tot : Int) = L - (p.tot : Int) + ((x.els.length + r.tot : Nat) : Int) by omega]
            exact h9)
          have HRR := Lib.hid hrr; have HX := Lib.hid hx; have HXL := Lib.hid hxl; have HRK := Lib.hid hrok; have HD5 := Lib.hid hd
          have HRT : Hid (x.els.length + r.tot ≤ p.tot) := Lib.hid (by have h1 := HQT.out; simpa [Pg.tot] using h1)
          have i0 : ¬ (rr : Int) = 0 := by omega
          have i1 : ¬ (rr : Int) = 125 := by omega
          have i2 : ¬ (rr : Int) = 59 := by omega
          have i3 : ¬ (rr : Int) = 119 := by omega
          have j0 : ((rr : Int) == 0) = false := by rw [beq_eq_false_iff_ne]; exact i0
          have j1 : ((rr : Int) == 125) = false := by rw [beq_eq_false_iff_ne]; exact i1
          have j2 : ((rr : Int) == 59) = false := by rw [beq_eq_false_iff_ne]; exact i2
          have j3 : ((rr : Int) == 119) = false := by rw [beq_eq_false_iff_ne]; exact i3
          have k0 : ¬ rr = 0 := by omega
          have m0 : ((rr : Int) != 0) = true := bne_iff_ne.2 i0
          have m1 : ((rr : Int) != 125) = true := bne_iff_ne.2 i1
          clear hr0 hq hrr hx hxl hrok hd
          have HPK := Lib.hid (peek_any wr g B _ _ _ _ _ _ HR0.out)
          have HT := Lib.hid (take_any wr g B _ _ _ _ _ _ HR0.out (by have := HRR.out; omega))
          have x1 := blk_cell HR0.out.box 1 rfl
          go_upto_region 3 with (go_at_call 136; refine HPK.out.mono ?_; rintro e w' ⟨rfl, rfl⟩)
          clear x1
          go_upto_region 4 with (go_at_call 137
                                 refine HT.out.mono ?_
                                 rintro e w2 ⟨rfl, ⟨A2, n2, c2, hr⟩, hc⟩
                                 have HR2 := Lib.hid hr
                                 have HO2 := Lib.hid (HO0.out.rdr HR0.out hc)
                                 have HC2 : Hid (Ch (· = g) w w2) := Lib.hid (HC0.out.trans hc)
                                 clear hr hc)
          have hdg := digitV_any w2 g B _ _ _ _ _ HR2.out d HD5.out
          rw [← HRR.out] at hdg
          have HD := Lib.hid hdg
          clear hdg
          go_upto_region 6 with (go_at_call 140
                                 refine HD.out.mono ?_
                                 rintro e w3 ⟨rfl, hr, hc⟩
                                 have HR3 := Lib.hid hr
                                 have HO3 := Lib.hid (HO2.out.rdr HR2.out hc)
                                 have HC3 : Hid (Ch (· = g) w w3) := Lib.hid (HC2.out.trans hc)
                                 clear hr hc)
          clear i0 i1 i2 i3 j0 j1 j2 j3 k0 m0 m1
          have HT2 := Lib.hid (take_any w3 g B _ _ _ _ _ _ HR3.out (by decide))
          go_upto_region 7 with (go_at_call 137
                                 refine HT2.out.mono ?_
                                 rintro e w4 ⟨rfl, ⟨A4, n4, c4, hr⟩, hc⟩
                                 have HR4 := Lib.hid hr
                                 have HO4 := Lib.hid (HO3.out.rdr HR3.out hc)
                                 have HC4 : Hid (Ch (· = g) w w4) := Lib.hid (HC3.out.trans hc)
                                 clear hr hc)
          have HE := Lib.hid (exprY_any x HX.out w4 g B A4 n4 c4 (r.tl ++ rest) _ HR4.out (by have h1 := HRT.out; have h2 := HL.out; omega) (by have h1 := HRT.out; have h2 := HL2.out; omega) (Nat.le_trans HB.out HC4.out.size))
          go_wp2_with (first
            | (go_at_call 138
               refine HE.out.mono ?_
               rintro e w5 ⟨A5, c5, A6, n6, c6, rfl, ho, hr, hc⟩
               have HV5 := Lib.hid ho
               have HR5 := Lib.hid hr
               have hoo := HO4.out.rdr HR4.out hc
               obtain ⟨us, hoo, hii⟩ := hoo
               have HO5 := Lib.hid hoo; have HI5 := Lib.hid hii
               have HC5 : Hid (Ch (· = g) w w5) := Lib.hid (HC4.out.trans hc)
               have HZ5 : Hid (w.heap.size ≤ w5.heap.size) := Lib.hid HC5.out.size
               have HM2 : Hid (m ≤ 1099511627776) := Lib.hid (by have := HM.out; omega)
               clear ho hr hc hoo hii)
            | (at_builtin; go_must (refine wpList_app1N eltCm rfl _ _ rfl w5 w.heap.size (.slice A1 m c1) m (flatC cs us) (by rfl) HO5.out #[.int .i64 0, .int .i64 (d : Int), .int .i64 0, .slice A5 x.els.length c5] rfl (one4V _ _ _ _ _ _) (by rfl) HZ5.out HM2.out ?_); rintro A7 c7 w7 ho7 hb7 hg7
               have HO7 : Hid (OutC w7 w.heap.size A7 (m + 1) c7 (cs ++ [⟨0, (d : Int), 0, x.els⟩])) := Lib.hid (OutC.app1 HO5.out HI5.out HV5.out (by have := HXL.out; omega) ho7 hg7)
               have HR7 := Lib.hid ((HR5.out.row (B' := w.heap.size) HO5.out hg7 (by decide) HB.out))
               have HC7 : Hid (Ch (· = g) w w7) := Lib.hid (chg_row HC5.out HO5.out hg7)
               clear ho7 hb7 hg7))
          go_roundw
          case rel => exact Lib.hid ⟨r, false, _, A7, m + 1, c7, _, _, _, rfl, HO7.out, by rw [HCS.out]; simp [Pg.cmds], HRK.out, by have h1 := HQZ.out; simp only [Pg.sz] at h1; omega, by have h9 := HR7.out; rw [show L - (p.tot : Int) + (r.tot : Int) = L - (p.tot : Int) + (x.els.length : Int) + (r.tot : Int) - (x.els.length : Int) by omega]; exact h9, by have h1 := HRT.out; omega, HC7.out⟩
          case measure => exact HR0.out.less HR7.out (by simp; omega)
        | loop x bd r =>
          obtain ⟨hx, hxl, hbok, hrok⟩ := hqok
          have HR0 : Hid (Rdr wr g B A0 n0 c0 (119 :: (x.rn ++ (123 :: (bd.tx ++ (125 :: (r.tl ++ rest)))))) (L - (p.tot : Int) + (x.els.length : Int) + (bd.tot : Int) + (r.tot : Int))) := Lib.hid (by
            have h9 := hr0
            simp only [Pg.tx, Pg.tl, List.drop_succ_cons, List.drop_zero, if_true, Pg.tot, List.cons_append, List.append_assoc] at h9
            rw [show L - (p.tot : Int) + (x.els.length : Int) + (bd.tot : Int) + (r.tot : Int) = L - (p.tot : Int) + ((x.els.length + (bd.tot + r.tot) : Nat) : Int) by omega]
            exact h9)
          have HX := Lib.hid hx; have HXL := Lib.hid hxl; have HRK := Lib.hid hrok; have HBK := Lib.hid hbok
          have HRT : Hid (x.els.length + (bd.tot + r.tot) ≤ p.tot) := Lib.hid (by have h1 := HQT.out; simpa [Pg.tot] using h1)
          have HBZ : Hid (bd.sz + r.sz + 1 ≤ p.sz) := Lib.hid (by have h1 := HQZ.out; simpa [Pg.sz] using h1)
          clear hr0 hq hx hxl hrok hbok
          have HPK := Lib.hid (peek_any wr g B _ _ _ _ _ _ HR0.out)
          have HT := Lib.hid (take_any wr g B _ _ _ _ _ _ HR0.out (by decide))
          have x1 := blk_cell HR0.out.box 1 rfl
          go_upto_region 3 with (go_at_call 136; refine HPK.out.mono ?_; rintro e w' ⟨rfl, rfl⟩)
          clear x1
          go_upto_region 10 with (go_at_call 137
                                  refine HT.out.mono ?_
                                  rintro e w2 ⟨rfl, ⟨A2, n2, c2, hr⟩, hc⟩
                                  have HR2 := Lib.hid hr
                                  have HO2 := Lib.hid (HO0.out.rdr HR0.out hc)
                                  have HC2 : Hid (Ch (· = g) w w2) := Lib.hid (HC0.out.trans hc)
                                  clear hr hc)
          have HE := Lib.hid (exprY_any x HX.out w2 g B A2 n2 c2 _ _ HR2.out (by have h1 := HRT.out; have h2 := HL.out; omega) (by have h1 := HRT.out; have h2 := HL2.out; omega) (Nat.le_trans HB.out HC2.out.size))
          go_upto_region 11 with (go_at_call 138
                                  refine HE.out.mono ?_
                                  rintro e w3 ⟨A3, c3, A4, n4, c4, rfl, ho, hr, hc⟩
                                  have HV3 := Lib.hid ho
                                  have HR3 := Lib.hid hr
                                  have HO3 := Lib.hid (HO2.out.rdr HR2.out hc)
                                  have HC3 : Hid (Ch (· = g) w w3) := Lib.hid (HC2.out.trans hc)
                                  clear ho hr hc)
          have HT2 := Lib.hid (take_any w3 g B _ _ _ _ _ _ HR3.out (by decide))
          go_upto_region 12 with (go_at_call 137
                                  refine HT2.out.mono ?_
                                  rintro e w4 ⟨rfl, ⟨A5, n5, c5, hr⟩, hc⟩
                                  have HR4 := Lib.hid hr
                                  have HO4 := Lib.hid (HO3.out.rdr HR3.out hc)
                                  have HV4 := Lib.hid (HR3.out.own HV3.out (by decide) hc)
                                  have HC4 : Hid (Ch (· = g) w w4) := Lib.hid (HC3.out.trans hc)
                                  clear hr hc)
          have HCM := Lib.hid (HIH.out bd (by have := HBZ.out; omega) HBK.out w4 g B A5 n5 c5 (125 :: (r.tl ++ rest)) _ (.inr ⟨_, rfl⟩) HR4.out (by have h1 := HRT.out; have h2 := HL.out; omega) (by have h1 := HRT.out; have h2 := HL2.out; omega) (Nat.le_trans HB.out HC4.out.size))
          go_upto_region 13 with (go_at_call 97
                                  refine HCM.out.mono ?_
                                  rintro e w5 ⟨A6, c6, rfl, hob, ⟨A7, n7, c7, hr⟩, hc⟩
                                  have HBO5 := Lib.hid hob
                                  have HR5 := Lib.hid hr
                                  have HO5 := Lib.hid (HO4.out.rdr HR4.out hc)
                                  have HV5 := Lib.hid (HR4.out.own HV4.out (by decide) hc)
                                  have HC5 : Hid (Ch (· = g) w w5) := Lib.hid (HC4.out.trans hc)
                                  clear hob hr hc)
          have HT3 := Lib.hid (take_any w5 g B _ _ _ _ _ _ HR5.out (by decide))
          go_upto_region 14 with (go_at_call 137
                                  refine HT3.out.mono ?_
                                  rintro e w6 ⟨rfl, ⟨A8, n8, c8, hr⟩, hc⟩
                                  have HR6 := Lib.hid hr
                                  have HBO6 := Lib.hid (HBO5.out.rdr HR5.out hc)
                                  have hoo := HO5.out.rdr HR5.out hc
                                  obtain ⟨us, hoo, hii⟩ := hoo
                                  have HO6 := Lib.hid hoo; have HI6 := Lib.hid hii
                                  have HV6 := Lib.hid (HR5.out.own HV5.out (by decide) hc)
                                  have HC6 : Hid (Ch (· = g) w w6) := Lib.hid (HC5.out.trans hc)
                                  clear hr hc hoo hii)
          obtain ⟨vs, hbo, hbi⟩ := HBO6.out
          have HBO := Lib.hid hbo; have HBI := Lib.hid hbi
          have HLT : Hid (∀ q, Fo (.slice A1 m c1) q → q < w4.heap.size) := Lib.hid (by obtain ⟨_, h1, _⟩ := HO4.out; exact fun q hq => (h1.lt q hq).2)
          have HZ6 : Hid (w.heap.size ≤ w6.heap.size) := Lib.hid HC6.out.size
          have HM2 : Hid (m ≤ 1099511627776) := Lib.hid (by have := HM.out; omega)
          have HM3 : Hid (m + 1 + bd.sz ≤ 1099511627776) := Lib.hid (by have := HM.out; have h1 := HBZ.out; have h2 := HSZ.out; omega)
          clear hbo hbi
          obtain ⟨bn, hbn⟩ : ∃ bn, bn = bd.sz := ⟨_, rfl⟩
          rw [← hbn] at HBO HM3 ⊢
          have HBN := Lib.hid hbn
          clear hbn
          go_wp2_with (first
            | (go_at_call 139; refine (sizeC_any _ _ _ _).mono ?_; rintro e w' ⟨rfl, rfl⟩)
            | (at_builtin; refine wpList_appSN eltCm rfl _ _ rfl w9 w.heap.size (.slice A9 (m + 1) c9) (m + 1) _ (by rfl) HO9.out A6 bn c6 (flatC bd.cmds vs) (by rfl) HB9.out (flatC_one _ _ HBI9.out.one4) HZ9.out HM3.out ?_
               rintro A10 c10 w10 ho10 hb10 hg10
               have HO10 : Hid (OutC w10 w.heap.size A10 (m + 1 + bn) c10 ((cs ++ [⟨1, 0, (bn : Int), x.els⟩]) ++ bd.cmds)) := Lib.hid (OutC.appS HO9.out HI9.out HBI9.out ho10 hg10)
               have HR10 := Lib.hid ((HR9.out.row (B' := w.heap.size) HO9.out hg10 (by decide) HB.out))
               have HC10 : Hid (Ch (· = g) w w10) := Lib.hid (chg_row HC9.out HO9.out hg10)
               clear ho10 hb10 hg10)
            | (at_builtin; go_must (refine wpList_app1N eltCm rfl _ _ rfl w6 w.heap.size (.slice A1 m c1) m (flatC cs us) (by rfl) HO6.out #[.int .i64 1, .int .i64 0, .int .i64 (bn : Int), .slice A3 x.els.length c3] rfl (one4V _ _ _ _ _ _) (by rfl) HZ6.out HM2.out ?_); rintro A9 c9 w9 ho9 hb9 hg9
               have hoo : OutC w9 w.heap.size A9 (m + 1) c9 (cs ++ [⟨1, 0, (bn : Int), x.els⟩]) := OutC.app1 HO6.out HI6.out HV6.out (by have := HXL.out; omega) ho9 hg9
               obtain ⟨us9, hoo, hii⟩ := hoo
               have HO9 := Lib.hid hoo; have HI9 := Lib.hid hii
               have HR9 := Lib.hid ((HR6.out.row (B' := w.heap.size) HO6.out hg9 (by decide) HB.out))
               have HC9 : Hid (Ch (· = g) w w9) := Lib.hid (chg_row HC6.out HO6.out hg9)
               have HBI9 := Lib.hid (HBI.out.grow HO6.out hg9)
               have HB9 := Lib.hid (ownN_rd (own_ch HBO.out (ch_row hg9) (fun q h1 h2 => by have h3 := (HBO.out.lt q h1).1; have h4 := HLT.out q h2; omega)))
               have HZ9 : Hid (w.heap.size ≤ w9.heap.size) := Lib.hid HC9.out.size
               clear ho9 hb9 hg9 hoo hii))
          go_roundw
          case rel => exact Lib.hid ⟨r, false, _, A10, m + 1 + bn, c10, _, _, _, rfl, HO10.out, by rw [HCS.out]; simp [Pg.cmds, HBN.out, bd.cmds_len], HRK.out, by have h1 := HBZ.out; omega, by have h9 := HR10.out; rw [show L - (p.tot : Int) + (r.tot : Int) = L - (p.tot : Int) + (x.els.length : Int) + (bd.tot : Int) + (r.tot : Int) - (x.els.length : Int) - (bd.tot : Int) by omega]; exact h9, by have h1 := HRT.out; omega, HC10.out⟩
          case measure => exact HR0.out.less HR10.out (by simp; omega)
theorem commandsY_any : ∀ (n : Nat) (p : Pg), p.sz ≤ n → p.sz ≤ 1000 → p.ok → CmCon p
  | 0, p, h, h2, hok => commandsY_step p hok h2 (fun b hb _ => by omega)
  | n + 1, p, h, h2, hok => commandsY_step p hok h2 (fun b hb hbok => commandsY_any n b (by omega) (by omega) hbok)
end Go.Proofs.YtadmbphefpfbmaaGreatDoor
