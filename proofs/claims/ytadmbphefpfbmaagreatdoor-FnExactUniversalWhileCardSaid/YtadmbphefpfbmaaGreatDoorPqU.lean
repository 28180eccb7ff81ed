/- The reference's reader of programs: commands. Printed by mk_pqu.py. -/
import Derived.Test.YtadmbphefpfbmaaGreatDoorPqS
import Derived.Test.YtadmbphefpfbmaaGreatDoorPqG
namespace Go.Proofs.YtadmbphefpfbmaaGreatDoor
open Go.RowKit
set_option linter.unusedVariables false
set_option linter.unusedSimpArgs false
attribute [local go_sem ↓] Go.wp_at_zero Go.wp_at_succ
theorem BsAt.head {s : ByteArray} {a c : Nat} {l : List Nat} (h : BsAt s a (c :: l)) : ∃ h : a < s.size, s[a].toNat = c := h 0 c rfl a (by omega)
theorem BsAt.tail {s : ByteArray} {a c : Nat} {l : List Nat} (h : BsAt s a (c :: l)) : BsAt s (a + 1) l := fun i x hi j hj => h (i + 1) x (by simpa using hi) j (by omega)
theorem BsAt.left {s : ByteArray} {a : Nat} {l m : List Nat} (h : BsAt s a (l ++ m)) : BsAt s a l := fun i x hi j hj => h i x (by rw [List.getElem?_append_left (List.getElem?_eq_some_iff.1 hi).1]; exact hi) j hj
theorem BsAt.right {s : ByteArray} {a : Nat} {l m : List Nat} (h : BsAt s a (l ++ m)) : BsAt s (a + l.length) m := fun i x hi j hj => h (l.length + i) x (by rw [List.getElem?_append_right (by omega), Nat.add_sub_cancel_left]; exact hi) j (by omega)
def AllR (w : World) (p : Pg) (nx : Nat) (e : Ending) (w' : World) : Prop :=
  ∃ A c, e = .returned (.tuple #[.slice A p.sz c, .int .i64 (nx : Int), .bool true]) ∧ OutC w' w.heap.size A p.sz c p.cmds ∧ Below w.heap.size w w'
def AllCon (p : Pg) : Prop := ∀ (w : World) (s : ByteArray) (at_ E : Nat) (d : Int), BsAt s at_ p.tx → E = at_ + p.tx.length → (E = s.size ∨ BsAt s E [125]) → (p.dp : Int) ≤ d → d ≤ 1000 → E ≤ 100000 →
    Calls Tryz.prog 62 #[.string s, .int .i64 (at_ : Int), .int .i64 d] w (AllR w p E)
def AlS (w : World) (p : Pg) (s : ByteArray) (E : Nat) (u v : Value) (wr : World) : Prop :=
  ∃ (q : Pg) (cs : List Cmd) (A : Option Addr) (m c pos : Nat), u = .int .i64 (pos : Int) ∧ v = .slice A m c ∧ OutC wr w.heap.size A m c cs ∧ p.cmds = cs ++ q.cmds ∧ q.ok ∧ q.sz ≤ p.sz ∧ q.dp ≤ p.dp ∧ BsAt s pos (if m = 0 then q.tx else q.tl) ∧ pos + (if m = 0 then q.tx else q.tl).length = E ∧ Below w.heap.size w wr
set_option maxHeartbeats 8000000 in
set_option maxRecDepth 100000 in
theorem readAllY_step (p : Pg) (hok : p.ok) (hsz : p.sz ≤ 80) (ih : ∀ b : Pg, b.sz < p.sz → b.ok → AllCon b) : AllCon p := by
  intro w s at_ E d hb hE hend hd hd2 hat
  obtain ⟨w1, hw1⟩ : ∃ w1, w1 = w.alloc (.cells #[] 44) := ⟨_, rfl⟩
  have hb1 : Below w.heap.size w w1 := by rw [hw1]; exact below_new _ _
  have HST : Hid (AlS w p s E (.int .i64 (at_ : Int)) (.slice (some ⟨w.heap.size, 0, none⟩) 0 0) w1) := Lib.hid ⟨p, [], _, _, _, at_, rfl, rfl, ⟨[], by rw [hw1]; exact ownN_lit w #[] 0 4 44 rfl (by omega), ⟨rfl, by simp⟩⟩, rfl, hok, Nat.le_refl _, Nat.le_refl _, hb, hE.symm, hb1⟩
  have HD : Hid ((p.dp : Int) ≤ d ∧ d ≤ 1000) := Lib.hid ⟨hd, hd2⟩
  have HAT := Lib.hid hat; have HEND := Lib.hid hend
  have HIH := Lib.hid ih; have HSZ := Lib.hid hsz
  have hd0 : (d == 0) = false := by rw [beq_eq_false_iff_ne]; have := p.dp_pos; omega
  clear hb hE hend hd hd2 hat hb1 ih hsz hok
  go_enter Tryz.func62, Tryz.ntmps62
  go_upto_region 2 with fail
  rw [← hw1]
  clear hw1
  go_loopw [1, 9] (fun u v wr => Hid (AlS w p s E u v wr)) (fun u _ _ => E - (intOf u).toNat)
  case atStart => exact HST
  case round =>
    clear HST
    obtain ⟨q, cs, A1, m, c1, pos, rfl, rfl, ho0, hcs, hqok, hqsz, hqdp, hbs, hpe, hb0⟩ := hrel.out
    have HO0 := Lib.hid ho0; have HCS := Lib.hid hcs; have HB0 := Lib.hid hb0; have HQZ := Lib.hid hqsz; have HQD := Lib.hid hqdp
    have HM : Hid (m ≤ 80 ∧ m + q.sz = p.sz) := Lib.hid (by have h1 := ho0.len; have h2 := p.cmds_len; have h3 := HSZ.out; rw [hcs, List.length_append, q.cmds_len] at h2; omega)
    clear hrel ho0 hcs hb0 hqsz hqdp
    have hnil : q = .nil ∨ q ≠ .nil := by cases q <;> simp
    have hp0 : (0 : Int) ≤ (pos : Int) := by omega
    rcases hnil with rfl | hq
    · have e0 : (if m = 0 then Pg.nil.tx else Pg.nil.tl) = [] := by split <;> rfl
      rw [e0] at hpe
      simp only [List.length_nil, Nat.add_zero] at hpe
      subst hpe
      have HE : Hid (p.cmds = cs ∧ m = p.sz) := Lib.hid (by
        have h1 := HCS.out
        simp only [Pg.cmds, List.append_nil] at h1
        refine ⟨h1, ?_⟩
        have h2 := HO0.out.len
        rw [← h1, p.cmds_len] at h2
        exact h2.symm)
      clear hbs e0 hqok
      rcases HEND.out with e | e
      · have h1 : ¬ (pos : Int) < (s.size : Int) := by omega
        have h2 : ¬ pos < s.size := by omega
        clear e
        go_wp2_with fail
        have h3 := HO0.out
        rw [← HE.out.1, HE.out.2] at h3
        have h4 := HE.out.2
        subst h4
        exact bodyPost_ret (v := .tuple #[.slice A1 p.sz c1, .int .i64 (pos : Int), .bool true]) (by simp [results, Tryz.results62, go_sem]) rfl ⟨A1, c1, rfl, h3, HB0.out⟩
      · obtain ⟨h1, hc0⟩ := e.head
        have h2 : (pos : Int) < (s.size : Int) := by omega
        clear e
        go_wp2_with fail
        have h3 := HO0.out
        rw [← HE.out.1, HE.out.2] at h3
        have h4 := HE.out.2
        subst h4
        exact bodyPost_ret (v := .tuple #[.slice A1 p.sz c1, .int .i64 (pos : Int), .bool true]) (by simp [results, Tryz.results62, go_sem]) rfl ⟨A1, c1, rfl, h3, HB0.out⟩
    · by_cases hm : m = 0
      · skip
        subst hm
        rw [if_pos rfl] at hbs hpe
        have HBS := Lib.hid hbs
        have HPE := Lib.hid hpe
        clear hbs hpe
        cases q with
        | nil => exact absurd rfl hq
        | set d' x r =>
          have HQ9 := Lib.hid hq
          clear hq
          obtain ⟨hd, hx, hxl, hrok⟩ := hqok
          obtain ⟨rr, hrr⟩ : ∃ rr, rr = 48 + d' := ⟨_, rfl⟩
          have hbb : BsAt s pos (rr :: 61 :: (x.rn ++ r.tl)) := by
            have h9 := HBS.out
            rw [hrr]
            simpa [Pg.tx, Pg.tl] using h9
          have hqe : pos + (2 + (x.rn.length + r.tl.length)) = E := by
            have h9 := HPE.out
            simp only [Pg.tx, Pg.tl, List.drop_succ_cons, List.drop_zero, List.length_cons, List.length_append] at h9
            omega
          obtain ⟨hl1, hc1⟩ := hbb.head
          have HRX := Lib.hid (readExprY_any x hx wr s (pos + 2) 40 hbb.tail.tail.left (by have := x.deep_els; omega) (by omega) (by have := HAT.out; omega))
          have HBT : Hid (BsAt s (pos + 2 + x.rn.length) r.tl) := Lib.hid hbb.tail.tail.right
          obtain ⟨nx, hnx⟩ : ∃ nx, nx = pos + 2 + x.rn.length := ⟨_, rfl⟩
          rw [← hnx] at HBT HRX
          have HNX : Hid (nx + r.tl.length = E ∧ pos < nx ∧ nx ≤ E) := Lib.hid (by omega)
          have hei : ((pos + 2 : Nat) : Int) = (pos : Int) + 2 := by omega
          rw [hei] at HRX
          have HX := Lib.hid hx; have HXL := Lib.hid hxl; have HRK := Lib.hid hrok
          have i1 : ¬ (rr : Int) = 125 := by omega
          have i3 : ¬ (rr : Int) = 119 := by omega
          have j1 : ((rr : Int) == 125) = false := by rw [beq_eq_false_iff_ne]; exact i1
          have j3 : ((rr : Int) == 119) = false := by rw [beq_eq_false_iff_ne]; exact i3
          have m1 : ((rr : Int) != 125) = true := bne_iff_ne.2 i1
          have HWR : Hid (IntKind.i64.wrap ((rr : Int) - 48) = (d' : Int)) := Lib.hid (by rw [show (rr : Int) - 48 = (d' : Int) by omega]; exact IntWalk.i64_in _ (by omega))
          have HWS : Hid (IntKind.i64.wrap (rr : Int) = (rr : Int)) := Lib.hid (IntWalk.i64_in _ (by omega))
          have hpl : (pos : Int) < (s.size : Int) := by omega
          have hpl1 : (pos : Int) < (s.size : Int) := by omega
          have hpl2 : ¬ (s.size : Int) ≤ (pos : Int) := by omega
          have hpl3 : ¬ s.size ≤ pos := by omega
          have h00 : (0 : Int) ≤ (pos : Int) := by omega
          have hposE : pos ≤ 100000 := by have := HAT.out; omega
          have hm80 : ¬ (80 : Int) < (0 : Int) := by have := HM.out; omega
          have hmN : ¬ 80 < 0 := by have := HM.out; omega
          have hat1 : IntKind.i64.wrap ((pos : Int) + 1) = (pos : Int) + 1 := IntWalk.i64_in _ (by omega)
          have hat2 : IntKind.i64.wrap ((pos : Int) + 2) = (pos : Int) + 2 := IntWalk.i64_in _ (by omega)
          clear hbb hqe hei hrr hx hxl hrok hd hnx
          go_upto_region 22 with (go_at_call 96
                                  refine HRX.out.mono ?_
                                  rintro e w5 ⟨A5, c5, rfl, ho, hb⟩
                                  have HV5 := Lib.hid ho
                                  have hoo := HO0.out.below hb
                                  obtain ⟨us, hoo, hii⟩ := hoo
                                  have HO5 := Lib.hid hoo; have HI5 := Lib.hid hii
                                  have HB5 : Hid (Below w.heap.size w w5) := Lib.hid (bqcP hb HB0.out)
                                  have HM2 : Hid (0 ≤ 1099511627776) := Lib.hid (by have := HM.out; omega)
                                  clear ho hb hoo hii)
          have hwr := HWR.out
          have hwr2 := HWS.out
          go_wp2_with (at_builtin; go_must (refine wpList_app1N eltCm rfl _ _ rfl w5 w.heap.size (.slice A1 0 c1) 0 (flatC cs us) (by rfl) HO5.out #[.int .i64 0, .int .i64 (d' : Int), .int .i64 0, .slice A5 x.els.length c5] rfl (one4V _ _ _ _ _ _) (by rfl) HB5.out.size HM2.out ?_); rintro A7 c7 w7 ho7 hb7 hg7
                       have HO7 : Hid (OutC w7 w.heap.size A7 (0 + 1) c7 (cs ++ [⟨0, (d' : Int), 0, x.els⟩])) := Lib.hid (OutC.app1 HO5.out HI5.out HV5.out (by have := HXL.out; omega) ho7 hg7)
                       have HB7 : Hid (Below w.heap.size w w7) := Lib.hid (HB5.out.trans hb7)
                       clear ho7 hb7 hg7)
          go_roundw
          case rel => exact Lib.hid ⟨r, _, A7, 0 + 1, c7, nx, rfl, rfl, HO7.out, by rw [HCS.out]; simp [Pg.cmds], HRK.out, by have h1 := HQZ.out; simp only [Pg.sz] at h1; omega, by have h1 := HQD.out; simp only [Pg.dp] at h1; omega, by rw [if_neg (by omega)]; exact HBT.out, by rw [if_neg (by omega)]; exact HNX.out.1, HB7.out⟩
          case measure => have := HNX.out; simp [intOf]; omega
        | loop x bd r =>
          have HQ9 := Lib.hid hq
          clear hq
          obtain ⟨hx, hxl, hbok, hrok⟩ := hqok
          have hbb : BsAt s pos (119 :: (x.rn ++ (123 :: (bd.tx ++ (125 :: r.tl))))) := by
            have h9 := HBS.out
            simpa [Pg.tx, Pg.tl] using h9
          have hqe : pos + (1 + (x.rn.length + (1 + (bd.tx.length + (1 + r.tl.length))))) = E := by
            have h9 := HPE.out
            simp only [Pg.tx, Pg.tl, List.drop_succ_cons, List.drop_zero, List.length_cons, List.length_append] at h9 ⊢
            omega
          obtain ⟨hl1, hc1⟩ := hbb.head
          have HRX := Lib.hid (readExprY_any x hx wr s (pos + 1) 40 hbb.tail.left (by have := x.deep_els; omega) (by omega) (by have := HAT.out; omega))
          obtain ⟨nx, hnx⟩ : ∃ nx, nx = pos + 1 + x.rn.length := ⟨_, rfl⟩
          have hb2 : BsAt s nx (123 :: (bd.tx ++ (125 :: r.tl))) := by rw [hnx]; exact hbb.tail.right
          obtain ⟨ex, hex⟩ : ∃ ex, ex = nx + 1 + bd.tx.length := ⟨_, rfl⟩
          have hb3 : BsAt s ex (125 :: r.tl) := by rw [hex]; exact hb2.tail.right
          have HBT : Hid (BsAt s (ex + 1) r.tl) := Lib.hid hb3.tail
          rw [← hnx] at HRX
          have HNX : Hid (ex + 1 + r.tl.length = E ∧ pos < ex + 1 ∧ ex ≤ E) := Lib.hid (by omega)
          have HDP : Hid ((bd.dp : Int) ≤ d - 1) := Lib.hid (by have h1 := HD.out; have h2 := HQD.out; simp only [Pg.dp] at h2; omega)
          have HBZ : Hid (bd.sz + r.sz + 1 ≤ p.sz) := Lib.hid (by have h1 := HQZ.out; simpa [Pg.sz] using h1)
          have HRA := Lib.hid (fun (w2 : World) => HIH.out bd (by have := HBZ.out; omega) hbok w2 s (nx + 1) ex (d - 1) hb2.tail.left hex (.inr (fun i x hi j hj => hb3 i x (by cases i with | zero => simpa using hi | succ i => simp at hi) j hj)) HDP.out (by have := HD.out; omega) (by have := HAT.out; omega))
          rw [show ((nx + 1 : Nat) : Int) = (nx : Int) + 1 by omega] at HRA
          have hei : ((pos + 1 : Nat) : Int) = (pos : Int) + 1 := by omega
          rw [hei] at HRX
          have HX := Lib.hid hx; have HXL := Lib.hid hxl; have HRK := Lib.hid hrok
          have hpl : (pos : Int) < (s.size : Int) := by omega
          have hpl1 : (pos : Int) < (s.size : Int) := by omega
          have hpl2 : ¬ (s.size : Int) ≤ (pos : Int) := by omega
          have hpl3 : ¬ s.size ≤ pos := by omega
          have h00 : (0 : Int) ≤ (pos : Int) := by omega
          have hposE : pos ≤ 100000 := by have := HAT.out; omega
          have hm80 : ¬ (80 : Int) < (0 : Int) := by have := HM.out; omega
          have hmN : ¬ 80 < 0 := by have := HM.out; omega
          have hat1 : IntKind.i64.wrap ((pos : Int) + 1) = (pos : Int) + 1 := IntWalk.i64_in _ (by omega)
          have hat2 : IntKind.i64.wrap ((pos : Int) + 1) = (pos : Int) + 1 := IntWalk.i64_in _ (by omega)
          have HXW : Hid (ex ≤ 100000 ∧ nx ≤ 100000) := Lib.hid (by have := HAT.out; omega)
          clear hbb hqe hei hx hxl hrok hbok hnx hex hb2 hb3
          go_upto_region 13 with (go_at_call 96
                                  refine HRX.out.mono ?_
                                  rintro e w5 ⟨A5, c5, rfl, ho, hb⟩
                                  have HV5 := Lib.hid ho
                                  have HO5 := Lib.hid (HO0.out.below hb)
                                  have HB5 : Hid (Below w.heap.size w w5) := Lib.hid (bqcP hb HB0.out)
                                  have HRA5 := Lib.hid (HRA.out w5)
                                  clear ho hb)
          have hnw : IntKind.i64.wrap ((nx : Int) + 1) = (nx : Int) + 1 := IntWalk.i64_in _ (by have := HXW.out; omega)
          have hdw : IntKind.i64.wrap (d - 1) = d - 1 := IntWalk.i64_in _ (by have := HD.out; omega)
          go_upto_region 16 with (go_at_call 62
                                  refine HRA5.out.mono ?_
                                  rintro e w6 ⟨A6, c6, rfl, hob, hb⟩
                                  obtain ⟨us, hoo, hii⟩ := HO5.out.below hb
                                  obtain ⟨vs, hbo, hbi⟩ := hob
                                  have HO6 := Lib.hid hoo; have HI6 := Lib.hid hii
                                  have HBO := Lib.hid hbo; have HBI := Lib.hid hbi
                                  have HV6 := Lib.hid (ownN_below HV5.out hb (Nat.le_refl _))
                                  have HLT : Hid (∀ q, Fo (.slice A1 0 c1) q → q < w5.heap.size) := Lib.hid (by obtain ⟨_, h1, _⟩ := HO5.out; exact fun q hq => (h1.lt q hq).2)
                                  have HB6 : Hid (Below w.heap.size w w6) := Lib.hid (bqcP hb HB5.out)
                                  have HM2 : Hid (0 ≤ 1099511627776) := Lib.hid (by have := HM.out; omega)
                                  have HM3 : Hid (0 + 1 + bd.sz ≤ 1099511627776) := Lib.hid (by have := HM.out; have h1 := HBZ.out; have h2 := HSZ.out; omega)
                                  clear hb hoo hii hbo hbi)
          clear hnw hdw hc1 hat2
          obtain ⟨bn, hbn⟩ : ∃ bn, bn = bd.sz := ⟨_, rfl⟩
          rw [← hbn] at HBO HM3 ⊢
          have HBN := Lib.hid hbn
          clear hbn
          go_upto_region 17 with (at_builtin; go_must (refine wpList_app1N eltCm rfl _ _ rfl w6 w.heap.size (.slice A1 0 c1) 0 (flatC cs us) (by rfl) HO6.out #[.int .i64 1, .int .i64 0, .int .i64 (bn : Int), .slice A5 x.els.length c5] rfl (one4V _ _ _ _ _ _) (by rfl) HB6.out.size HM2.out ?_); rintro A9 c9 w9 ho9 hb9 hg9
                                  have hoo : OutC w9 w.heap.size A9 (0 + 1) c9 (cs ++ [⟨1, 0, (bn : Int), x.els⟩]) := OutC.app1 HO6.out HI6.out HV6.out (by have := HXL.out; omega) ho9 hg9
                                  obtain ⟨us9, hoo, hii⟩ := hoo
                                  have HO9 := Lib.hid hoo; have HI9 := Lib.hid hii
                                  have HB9 : Hid (Below w.heap.size w w9) := Lib.hid (HB6.out.trans hb9)
                                  have HBI9 := Lib.hid (HBI.out.grow HO6.out hg9)
                                  have HBR9 := Lib.hid (ownN_rd (own_ch HBO.out (ch_row hg9) (fun q h1 h2 => by have h3 := (HBO.out.lt q h1).1; have h4 := HLT.out q h2; omega)))
                                  clear ho9 hb9 hg9 hoo hii)
          have hxw : IntKind.i64.wrap ((ex : Int) + 1) = (ex : Int) + 1 := IntWalk.i64_in _ (by have := HXW.out; omega)
          go_wp2_with (at_builtin; go_must (refine wpList_appSN eltCm rfl _ _ rfl w9 w.heap.size (.slice A9 (0 + 1) c9) (0 + 1) _ (by rfl) HO9.out A6 bn c6 (flatC bd.cmds vs) (by rfl) HBR9.out (flatC_one _ _ HBI9.out.one4) HB9.out.size HM3.out ?_); rintro A10 c10 w10 ho10 hb10 hg10
                       have HO10 : Hid (OutC w10 w.heap.size A10 (0 + 1 + bn) c10 ((cs ++ [⟨1, 0, (bn : Int), x.els⟩]) ++ bd.cmds)) := Lib.hid (OutC.appS HO9.out HI9.out HBI9.out ho10 hg10)
                       have HB10 : Hid (Below w.heap.size w w10) := Lib.hid (HB9.out.trans hb10)
                       clear ho10 hb10 hg10)
          clear hxw
          go_roundw
          case rel => exact Lib.hid ⟨r, _, A10, 0 + 1 + bn, c10, ex + 1, by go_num, rfl, HO10.out, by rw [HCS.out]; simp [Pg.cmds, HBN.out, bd.cmds_len], HRK.out, by have h1 := HBZ.out; omega, by have h1 := HQD.out; simp only [Pg.dp] at h1; omega, by rw [if_neg (by omega)]; exact HBT.out, by rw [if_neg (by omega)]; exact HNX.out.1, HB10.out⟩
          case measure => have := HNX.out; simp [intOf]; omega
      · skip
        rw [if_neg hm] at hbs hpe
        have htl : q.tl = 59 :: q.tx := by
          rcases q.tl_tx with e | e
          · exact absurd e hq
          · exact e
        rw [htl] at hbs hpe
        have HBS : Hid (BsAt s (pos + 1) q.tx) := Lib.hid hbs.tail
        have HPE : Hid (pos + 1 + q.tx.length = E) := Lib.hid (by simp only [List.length_cons] at hpe; omega)
        obtain ⟨hs59, hc59⟩ := hbs.head
        have hm0 : (0 : Int) < (m : Int) := by omega
        have hm1 : 0 < m := by omega
        clear hbs hpe htl
        cases q with
        | nil => exact absurd rfl hq
        | set d' x r =>
          have HQ9 := Lib.hid hq
          clear hq
          obtain ⟨hd, hx, hxl, hrok⟩ := hqok
          obtain ⟨rr, hrr⟩ : ∃ rr, rr = 48 + d' := ⟨_, rfl⟩
          have hbb : BsAt s (pos + 1) (rr :: 61 :: (x.rn ++ r.tl)) := by
            have h9 := HBS.out
            rw [hrr]
            simpa [Pg.tx, Pg.tl] using h9
          have hqe : (pos + 1) + (2 + (x.rn.length + r.tl.length)) = E := by
            have h9 := HPE.out
            simp only [Pg.tx, Pg.tl, List.drop_succ_cons, List.drop_zero, List.length_cons, List.length_append] at h9
            omega
          obtain ⟨hl1, hc1⟩ := hbb.head
          have HRX := Lib.hid (readExprY_any x hx wr s ((pos + 1) + 2) 40 hbb.tail.tail.left (by have := x.deep_els; omega) (by omega) (by have := HAT.out; omega))
          have HBT : Hid (BsAt s ((pos + 1) + 2 + x.rn.length) r.tl) := Lib.hid hbb.tail.tail.right
          obtain ⟨nx, hnx⟩ : ∃ nx, nx = (pos + 1) + 2 + x.rn.length := ⟨_, rfl⟩
          rw [← hnx] at HBT HRX
          have HNX : Hid (nx + r.tl.length = E ∧ pos < nx ∧ nx ≤ E) := Lib.hid (by omega)
          have hei : (((pos + 1) + 2 : Nat) : Int) = ((pos : Int) + 1) + 2 := by omega
          rw [hei] at HRX
          have HX := Lib.hid hx; have HXL := Lib.hid hxl; have HRK := Lib.hid hrok
          have i1 : ¬ (rr : Int) = 125 := by omega
          have i3 : ¬ (rr : Int) = 119 := by omega
          have j1 : ((rr : Int) == 125) = false := by rw [beq_eq_false_iff_ne]; exact i1
          have j3 : ((rr : Int) == 119) = false := by rw [beq_eq_false_iff_ne]; exact i3
          have m1 : ((rr : Int) != 125) = true := bne_iff_ne.2 i1
          have HWR : Hid (IntKind.i64.wrap ((rr : Int) - 48) = (d' : Int)) := Lib.hid (by rw [show (rr : Int) - 48 = (d' : Int) by omega]; exact IntWalk.i64_in _ (by omega))
          have HWS : Hid (IntKind.i64.wrap (rr : Int) = (rr : Int)) := Lib.hid (IntWalk.i64_in _ (by omega))
          have hpl : (pos : Int) < (s.size : Int) := by omega
          have hpl1 : ((pos : Int) + 1) < (s.size : Int) := by omega
          have hpl2 : ¬ (s.size : Int) ≤ ((pos : Int) + 1) := by omega
          have hpl3 : ¬ s.size ≤ (pos + 1) := by omega
          have h00 : (0 : Int) ≤ ((pos : Int) + 1) := by omega
          have hposE : pos ≤ 100000 := by have := HAT.out; omega
          have hm80 : ¬ (80 : Int) < (m : Int) := by have := HM.out; omega
          have hmN : ¬ 80 < m := by have := HM.out; omega
          have hat1 : IntKind.i64.wrap ((pos : Int) + 1) = (pos : Int) + 1 := IntWalk.i64_in _ (by omega)
          have hat2 : IntKind.i64.wrap (((pos : Int) + 1) + 2) = ((pos : Int) + 1) + 2 := IntWalk.i64_in _ (by omega)
          clear hbb hqe hei hrr hx hxl hrok hd hnx
          go_upto_region 22 with (go_at_call 96
                                  refine HRX.out.mono ?_
                                  rintro e w5 ⟨A5, c5, rfl, ho, hb⟩
                                  have HV5 := Lib.hid ho
                                  have hoo := HO0.out.below hb
                                  obtain ⟨us, hoo, hii⟩ := hoo
                                  have HO5 := Lib.hid hoo; have HI5 := Lib.hid hii
                                  have HB5 : Hid (Below w.heap.size w w5) := Lib.hid (bqcP hb HB0.out)
                                  have HM2 : Hid (m ≤ 1099511627776) := Lib.hid (by have := HM.out; omega)
                                  clear ho hb hoo hii)
          have hwr := HWR.out
          have hwr2 := HWS.out
          go_wp2_with (at_builtin; go_must (refine wpList_app1N eltCm rfl _ _ rfl w5 w.heap.size (.slice A1 m c1) m (flatC cs us) (by rfl) HO5.out #[.int .i64 0, .int .i64 (d' : Int), .int .i64 0, .slice A5 x.els.length c5] rfl (one4V _ _ _ _ _ _) (by rfl) HB5.out.size HM2.out ?_); rintro A7 c7 w7 ho7 hb7 hg7
                       have HO7 : Hid (OutC w7 w.heap.size A7 (m + 1) c7 (cs ++ [⟨0, (d' : Int), 0, x.els⟩])) := Lib.hid (OutC.app1 HO5.out HI5.out HV5.out (by have := HXL.out; omega) ho7 hg7)
                       have HB7 : Hid (Below w.heap.size w w7) := Lib.hid (HB5.out.trans hb7)
                       clear ho7 hb7 hg7)
          go_roundw
          case rel => exact Lib.hid ⟨r, _, A7, m + 1, c7, nx, rfl, rfl, HO7.out, by rw [HCS.out]; simp [Pg.cmds], HRK.out, by have h1 := HQZ.out; simp only [Pg.sz] at h1; omega, by have h1 := HQD.out; simp only [Pg.dp] at h1; omega, by rw [if_neg (by omega)]; exact HBT.out, by rw [if_neg (by omega)]; exact HNX.out.1, HB7.out⟩
          case measure => have := HNX.out; simp [intOf]; omega
        | loop x bd r =>
          have HQ9 := Lib.hid hq
          clear hq
          obtain ⟨hx, hxl, hbok, hrok⟩ := hqok
          have hbb : BsAt s (pos + 1) (119 :: (x.rn ++ (123 :: (bd.tx ++ (125 :: r.tl))))) := by
            have h9 := HBS.out
            simpa [Pg.tx, Pg.tl] using h9
          have hqe : (pos + 1) + (1 + (x.rn.length + (1 + (bd.tx.length + (1 + r.tl.length))))) = E := by
            have h9 := HPE.out
            simp only [Pg.tx, Pg.tl, List.drop_succ_cons, List.drop_zero, List.length_cons, List.length_append] at h9 ⊢
            omega
          obtain ⟨hl1, hc1⟩ := hbb.head
          have HRX := Lib.hid (readExprY_any x hx wr s ((pos + 1) + 1) 40 hbb.tail.left (by have := x.deep_els; omega) (by omega) (by have := HAT.out; omega))
          obtain ⟨nx, hnx⟩ : ∃ nx, nx = (pos + 1) + 1 + x.rn.length := ⟨_, rfl⟩
          have hb2 : BsAt s nx (123 :: (bd.tx ++ (125 :: r.tl))) := by rw [hnx]; exact hbb.tail.right
          obtain ⟨ex, hex⟩ : ∃ ex, ex = nx + 1 + bd.tx.length := ⟨_, rfl⟩
          have hb3 : BsAt s ex (125 :: r.tl) := by rw [hex]; exact hb2.tail.right
          have HBT : Hid (BsAt s (ex + 1) r.tl) := Lib.hid hb3.tail
          rw [← hnx] at HRX
          have HNX : Hid (ex + 1 + r.tl.length = E ∧ pos < ex + 1 ∧ ex ≤ E) := Lib.hid (by omega)
          have HDP : Hid ((bd.dp : Int) ≤ d - 1) := Lib.hid (by have h1 := HD.out; have h2 := HQD.out; simp only [Pg.dp] at h2; omega)
          have HBZ : Hid (bd.sz + r.sz + 1 ≤ p.sz) := Lib.hid (by have h1 := HQZ.out; simpa [Pg.sz] using h1)
          have HRA := Lib.hid (fun (w2 : World) => HIH.out bd (by have := HBZ.out; omega) hbok w2 s (nx + 1) ex (d - 1) hb2.tail.left hex (.inr (fun i x hi j hj => hb3 i x (by cases i with | zero => simpa using hi | succ i => simp at hi) j hj)) HDP.out (by have := HD.out; omega) (by have := HAT.out; omega))
          rw [show ((nx + 1 : Nat) : Int) = (nx : Int) + 1 by omega] at HRA
          have hei : (((pos + 1) + 1 : Nat) : Int) = ((pos : Int) + 1) + 1 := by omega
          rw [hei] at HRX
          have HX := Lib.hid hx; have HXL := Lib.hid hxl; have HRK := Lib.hid hrok
          have hpl : (pos : Int) < (s.size : Int) := by omega
          have hpl1 : ((pos : Int) + 1) < (s.size : Int) := by omega
          have hpl2 : ¬ (s.size : Int) ≤ ((pos : Int) + 1) := by omega
          have hpl3 : ¬ s.size ≤ (pos + 1) := by omega
          have h00 : (0 : Int) ≤ ((pos : Int) + 1) := by omega
          have hposE : pos ≤ 100000 := by have := HAT.out; omega
          have hm80 : ¬ (80 : Int) < (m : Int) := by have := HM.out; omega
          have hmN : ¬ 80 < m := by have := HM.out; omega
          have hat1 : IntKind.i64.wrap ((pos : Int) + 1) = (pos : Int) + 1 := IntWalk.i64_in _ (by omega)
          have hat2 : IntKind.i64.wrap (((pos : Int) + 1) + 1) = ((pos : Int) + 1) + 1 := IntWalk.i64_in _ (by omega)
          have HXW : Hid (ex ≤ 100000 ∧ nx ≤ 100000) := Lib.hid (by have := HAT.out; omega)
          clear hbb hqe hei hx hxl hrok hbok hnx hex hb2 hb3
          go_upto_region 13 with (go_at_call 96
                                  refine HRX.out.mono ?_
                                  rintro e w5 ⟨A5, c5, rfl, ho, hb⟩
                                  have HV5 := Lib.hid ho
                                  have HO5 := Lib.hid (HO0.out.below hb)
                                  have HB5 : Hid (Below w.heap.size w w5) := Lib.hid (bqcP hb HB0.out)
                                  have HRA5 := Lib.hid (HRA.out w5)
                                  clear ho hb)
          have hnw : IntKind.i64.wrap ((nx : Int) + 1) = (nx : Int) + 1 := IntWalk.i64_in _ (by have := HXW.out; omega)
          have hdw : IntKind.i64.wrap (d - 1) = d - 1 := IntWalk.i64_in _ (by have := HD.out; omega)
          go_upto_region 16 with (go_at_call 62
                                  refine HRA5.out.mono ?_
                                  rintro e w6 ⟨A6, c6, rfl, hob, hb⟩
                                  obtain ⟨us, hoo, hii⟩ := HO5.out.below hb
                                  obtain ⟨vs, hbo, hbi⟩ := hob
                                  have HO6 := Lib.hid hoo; have HI6 := Lib.hid hii
                                  have HBO := Lib.hid hbo; have HBI := Lib.hid hbi
                                  have HV6 := Lib.hid (ownN_below HV5.out hb (Nat.le_refl _))
                                  have HLT : Hid (∀ q, Fo (.slice A1 m c1) q → q < w5.heap.size) := Lib.hid (by obtain ⟨_, h1, _⟩ := HO5.out; exact fun q hq => (h1.lt q hq).2)
                                  have HB6 : Hid (Below w.heap.size w w6) := Lib.hid (bqcP hb HB5.out)
                                  have HM2 : Hid (m ≤ 1099511627776) := Lib.hid (by have := HM.out; omega)
                                  have HM3 : Hid (m + 1 + bd.sz ≤ 1099511627776) := Lib.hid (by have := HM.out; have h1 := HBZ.out; have h2 := HSZ.out; omega)
                                  clear hb hoo hii hbo hbi)
          clear hnw hdw hc1 hat2
          obtain ⟨bn, hbn⟩ : ∃ bn, bn = bd.sz := ⟨_, rfl⟩
          rw [← hbn] at HBO HM3 ⊢
          have HBN := Lib.hid hbn
          clear hbn
          go_upto_region 17 with (at_builtin; go_must (refine wpList_app1N eltCm rfl _ _ rfl w6 w.heap.size (.slice A1 m c1) m (flatC cs us) (by rfl) HO6.out #[.int .i64 1, .int .i64 0, .int .i64 (bn : Int), .slice A5 x.els.length c5] rfl (one4V _ _ _ _ _ _) (by rfl) HB6.out.size HM2.out ?_); rintro A9 c9 w9 ho9 hb9 hg9
                                  have hoo : OutC w9 w.heap.size A9 (m + 1) c9 (cs ++ [⟨1, 0, (bn : Int), x.els⟩]) := OutC.app1 HO6.out HI6.out HV6.out (by have := HXL.out; omega) ho9 hg9
                                  obtain ⟨us9, hoo, hii⟩ := hoo
                                  have HO9 := Lib.hid hoo; have HI9 := Lib.hid hii
                                  have HB9 : Hid (Below w.heap.size w w9) := Lib.hid (HB6.out.trans hb9)
                                  have HBI9 := Lib.hid (HBI.out.grow HO6.out hg9)
                                  have HBR9 := Lib.hid (ownN_rd (own_ch HBO.out (ch_row hg9) (fun q h1 h2 => by have h3 := (HBO.out.lt q h1).1; have h4 := HLT.out q h2; omega)))
                                  clear ho9 hb9 hg9 hoo hii)
          have hxw : IntKind.i64.wrap ((ex : Int) + 1) = (ex : Int) + 1 := IntWalk.i64_in _ (by have := HXW.out; omega)
          go_wp2_with (at_builtin; go_must (refine wpList_appSN eltCm rfl _ _ rfl w9 w.heap.size (.slice A9 (m + 1) c9) (m + 1) _ (by rfl) HO9.out A6 bn c6 (flatC bd.cmds vs) (by rfl) HBR9.out (flatC_one _ _ HBI9.out.one4) HB9.out.size HM3.out ?_); rintro A10 c10 w10 ho10 hb10 hg10
                       have HO10 : Hid (OutC w10 w.heap.size A10 (m + 1 + bn) c10 ((cs ++ [⟨1, 0, (bn : Int), x.els⟩]) ++ bd.cmds)) := Lib.hid (OutC.appS HO9.out HI9.out HBI9.out ho10 hg10)
                       have HB10 : Hid (Below w.heap.size w w10) := Lib.hid (HB9.out.trans hb10)
                       clear ho10 hb10 hg10)
          clear hxw
          go_roundw
          case rel => exact Lib.hid ⟨r, _, A10, m + 1 + bn, c10, ex + 1, by go_num, rfl, HO10.out, by rw [HCS.out]; simp [Pg.cmds, HBN.out, bd.cmds_len], HRK.out, by have h1 := HBZ.out; omega, by have h1 := HQD.out; simp only [Pg.dp] at h1; omega, by rw [if_neg (by omega)]; exact HBT.out, by rw [if_neg (by omega)]; exact HNX.out.1, HB10.out⟩
          case measure => have := HNX.out; simp [intOf]; omega
theorem readAllY_any : ∀ (n : Nat) (p : Pg), p.sz ≤ n → p.sz ≤ 80 → p.ok → AllCon p
  | 0, p, h, h2, hok => readAllY_step p hok h2 (fun b hb _ => by omega)
  | n + 1, p, h, h2, hok => readAllY_step p hok h2 (fun b hb hbok => readAllY_any n b (by omega) (by omega) hbok)
end Go.Proofs.YtadmbphefpfbmaaGreatDoor
