/- Texts in one file: UxG, UxK, UwA, UwB, LawUni. -/
import Derived.Test.YtadmbphefpfbmaaGreatDoorPqK
import Derived.Test.YtadmbphefpfbmaaGreatDoorGR
import Derived.Laws.IdiomStrings
import Derived.Test.YtadmbphefpfbmaaGreatDoorUvX
import Derived.Test.YtadmbphefpfbmaaGreatDoorUvL
import Derived.Test.YtadmbphefpfbmaaGreatDoorGQ
/- Programs read from their texts (program): each command's expression lies in a block of its own. Printed by mk_uxg.py out of XPqG. -/
namespace Go.Proofs.YtadmbphefpfbmaaGreatDoor
open Go.RowKit
set_option linter.unusedVariables false
set_option linter.unusedSimpArgs false
attribute [local go_sem ↓] Go.wp_at_zero Go.wp_at_succ
/-- Rows of expressions from lo on, no block twice. -/
def InnD (lo : Nat) (w : World) (us : List Value) (cs : List Cmd) : Prop :=
  InnR w us cs ∧ (∀ (i : Nat) (u : Value) (k : Nat), us[i]? = some u → Fo u k → lo ≤ k) ∧ ∀ (i j : Nat) (u v : Value) (k : Nat), us[i]? = some u → us[j]? = some v → Fo u k → Fo v k → i = j
theorem InnR.lt {w : World} {us : List Value} {cs : List Cmd} (h : InnR w us cs) : ∀ (i : Nat) (u : Value) (k : Nat), us[i]? = some u → Fo u k → k < w.heap.size := by
  intro i u k hu hk
  obtain ⟨x, hx⟩ := get_some (xs := cs) (k := i) (by rw [← h.1]; exact (List.getElem?_eq_some_iff.1 hu).1)
  obtain ⟨A, n, c, rfl, _, _, ho⟩ := h.2 i u x hu hx
  exact (ho.lt k hk).2
def OutD (w : World) (base : Nat) (A : Option Addr) (n c : Nat) (cs : List Cmd) : Prop := ∃ us, w.ownsRow base 44 4 (.slice A n c) n (flatC cs us) ∧ InnD base w us cs
theorem OutD.out {w : World} {base n c : Nat} {A : Option Addr} {cs : List Cmd} (h : OutD w base A n c cs) : OutC w base A n c cs := by
  obtain ⟨us, h1, h2⟩ := h
  exact ⟨us, h1, h2.1⟩
theorem OutD.len {w : World} {base n c : Nat} {A : Option Addr} {cs : List Cmd} (h : OutD w base A n c cs) : cs.length = n := h.out.len
theorem OutD.cap {w : World} {base n c : Nat} {A : Option Addr} {cs : List Cmd} (h : OutD w base A n c cs) : n ≤ c := h.out.cap
theorem OutD.rdc {w : World} {base n c : Nat} {A : Option Addr} {cs : List Cmd} (h : OutD w base A n c cs) : RdC w A n cs := h.out.rdc
theorem OutD.below {w w' : World} {base n c : Nat} {A : Option Addr} {cs : List Cmd} (h : OutD w base A n c cs) (hb : Below w.heap.size w w') : OutD w' base A n c cs := by
  obtain ⟨us, h1, h2, h3⟩ := h
  exact ⟨us, ownN_below h1 hb (Nat.le_refl _), h2.below hb, h3⟩
theorem InnD.rdr {w w' : World} {lo : Nat} {us : List Value} {cs : List Cmd} {g B n' c' : Nat} {A' : Option Addr} {rs : List Nat} {L : Int} (h : InnD lo w us cs) (hr : Rdr w g B A' n' c' rs L) (hc : Ch (· = g) w w') : InnD lo w' us cs := ⟨h.1.ch hc hr.tyE, h.2⟩
theorem OutD.rdr {w w' : World} {base n c : Nat} {A : Option Addr} {cs : List Cmd} {g B n' c' : Nat} {A' : Option Addr} {rs : List Nat} {L : Int} (h : OutD w base A n c cs) (hr : Rdr w g B A' n' c' rs L) (hc : Ch (· = g) w w') : OutD w' base A n c cs := by
  obtain ⟨us, h1, h2⟩ := h
  exact ⟨us, hr.own h1 (by decide) hc, h2.rdr hr hc⟩
theorem InnD.grow {w w' : World} {lo base n c : Nat} {A : Option Addr} {vs us : List Value} {cs : List Cmd} (h : InnD lo w us cs) (ho : w.ownsRow base 44 4 (.slice A n c) n vs) (hg : w.grownBy w' (Value.ownBlock (.slice A n c))) : InnD lo w' us cs := ⟨h.1.grow ho hg, h.2⟩
/-- Lists of rows one behind the other: the second ones' blocks lie at b and above, the first ones' below. -/
theorem dj_app {us vs : List Value} {lo b : Nat} (h : (∀ (i : Nat) (u : Value) (k : Nat), us[i]? = some u → Fo u k → lo ≤ k) ∧ ∀ (i j : Nat) (u v : Value) (k : Nat), us[i]? = some u → us[j]? = some v → Fo u k → Fo v k → i = j)
    (g : (∀ (i : Nat) (u : Value) (k : Nat), vs[i]? = some u → Fo u k → b ≤ k) ∧ ∀ (i j : Nat) (u v : Value) (k : Nat), vs[i]? = some u → vs[j]? = some v → Fo u k → Fo v k → i = j) (hlo : lo ≤ b) (hu : ∀ (i : Nat) (u : Value) (k : Nat), us[i]? = some u → Fo u k → k < b) :
    (∀ (i : Nat) (u : Value) (k : Nat), (us ++ vs)[i]? = some u → Fo u k → lo ≤ k) ∧ ∀ (i j : Nat) (u v : Value) (k : Nat), (us ++ vs)[i]? = some u → (us ++ vs)[j]? = some v → Fo u k → Fo v k → i = j := by
  have split2 : ∀ (i : Nat) (u : Value), (us ++ vs)[i]? = some u → (i < us.length ∧ us[i]? = some u) ∨ (us.length ≤ i ∧ vs[i - us.length]? = some u) := by
    intro i u hu
    by_cases hi : i < us.length
    · rw [List.getElem?_append_left hi] at hu; exact .inl ⟨hi, hu⟩
    · rw [List.getElem?_append_right (by omega)] at hu; exact .inr ⟨by omega, hu⟩
  refine ⟨fun i u k h1 h2 => ?_, fun i j u v k h1 h2 h3 h4 => ?_⟩
  · rcases split2 i u h1 with ⟨hi, h1⟩ | ⟨hi, h1⟩
    · exact h.1 i u k h1 h2
    · exact Nat.le_trans hlo (g.1 _ u k h1 h2)
  · rcases split2 i u h1 with ⟨hi, h1⟩ | ⟨hi, h1⟩ <;> rcases split2 j v h2 with ⟨hj, h2⟩ | ⟨hj, h2⟩
    · exact h.2 i j u v k h1 h2 h3 h4
    · have := hu i u k h1 h3; have := g.1 _ v k h2 h4; omega
    · have := hu j v k h2 h4; have := g.1 _ u k h1 h3; omega
    · have := g.2 _ _ u v k h1 h2 h3 h4; omega
theorem dj_one {b s n : Nat} {w : World} {A : Option Addr} {c : Nat} {e : Nat} {vs : List Value} (h : w.ownsRow b e s (.slice A n c) n vs) : (∀ (i : Nat) (u : Value) (k : Nat), [Value.slice A n c][i]? = some u → Fo u k → b ≤ k) ∧ ∀ (i j : Nat) (u v : Value) (k : Nat), [Value.slice A n c][i]? = some u → [Value.slice A n c][j]? = some v → Fo u k → Fo v k → i = j := by
  refine ⟨fun i u k h1 h2 => ?_, fun i j u v k h1 h2 _ _ => ?_⟩
  · cases i with
    | zero => simp at h1; subst h1; exact (h.lt k h2).1
    | succ i => simp at h1
  · cases i with
    | zero => cases j with
      | zero => rfl
      | succ j => simp at h2
    | succ i => simp at h1
theorem InnD.app1 {w w' : World} {base n c b' k c5 : Nat} {A A5 : Option Addr} {us : List Value} {cs : List Cmd} {x : Cmd} (ho : w.ownsRow base 44 4 (.slice A n c) n (flatC cs us)) (hi : InnD base w us cs) (hv : w.ownsRow b' 110 2 (.slice A5 k c5) k (ints (eNums x.e))) (hb : base ≤ b') (hul : ∀ (i : Nat) (u : Value) (k : Nat), us[i]? = some u → Fo u k → k < b') (hk : k ≤ 1000000000)
    (hg : w.grownBy w' (Value.ownBlock (.slice A n c))) : InnD base w' (us ++ [.slice A5 k c5]) (cs ++ [x]) := by
  have hv' := own_ch hv (ch_row hg) (fun q h1 h2 => own_types hv ho (by decide) q h1 h2)
  exact ⟨(hi.1.grow ho hg).snoc hk (ownN_cap hv') (ownN_base hv' (Nat.zero_le _)), dj_app hi.2 (dj_one hv) hb hul⟩
theorem OutD.app1 {w w' : World} {base n c c' b' k c5 : Nat} {A A' A5 : Option Addr} {us : List Value} {cs : List Cmd} {x : Cmd} (ho : w.ownsRow base 44 4 (.slice A n c) n (flatC cs us)) (hi : InnD base w us cs) (hv : w.ownsRow b' 110 2 (.slice A5 k c5) k (ints (eNums x.e))) (hb : base ≤ b') (hul : ∀ (i : Nat) (u : Value) (k : Nat), us[i]? = some u → Fo u k → k < b') (hk : k ≤ 1000000000)
    (ho' : w'.ownsRow base 44 4 (.slice A' (n + 1) c') (n + 1) (flatC cs us ++ [.int .i64 x.k, .int .i64 x.v, .int .i64 x.l, .slice A5 k c5])) (hg : w.grownBy w' (Value.ownBlock (.slice A n c))) : OutD w' base A' (n + 1) c' (cs ++ [x]) := by
  refine ⟨us ++ [.slice A5 k c5], ?_, hi.app1 ho hv hb hul hk hg⟩
  rw [flatC_append _ _ _ _ hi.1.1]
  exact ho'
theorem OutD.appS {w w' : World} {base b n c n' c' : Nat} {A A' : Option Addr} {us vs : List Value} {cs ds : List Cmd} (ho : w.ownsRow base 44 4 (.slice A n c) n (flatC cs us)) (hi : InnD base w us cs) (hj : InnD b w vs ds) (hb : base ≤ b) (hul : ∀ (i : Nat) (u : Value) (k : Nat), us[i]? = some u → Fo u k → k < b)
    (ho' : w'.ownsRow base 44 4 (.slice A' n' c') n' (flatC cs us ++ flatC ds vs)) (hg : w.grownBy w' (Value.ownBlock (.slice A n c))) : OutD w' base A' n' c' (cs ++ ds) := by
  refine ⟨us ++ vs, ?_, (hi.1.grow ho hg).app (hj.1.grow ho hg), dj_app hi.2 hj.2 hb hul⟩
  rw [flatC_append _ _ _ _ hi.1.1]
  exact ho'
def CmQD (w : World) (g B : Nat) (p : Pg) (rest : List Nat) (L : Int) (e : Ending) (w' : World) : Prop :=
  ∃ A c, e = .returned (.slice A p.sz c) ∧ OutD w' w.heap.size A p.sz c p.cmds ∧ (∃ A n c, Rdr w' g B A n c rest (L - (p.tot : Int))) ∧ Ch (· = g) w w'
def CmS2D (w : World) (g B : Nat) (p : Pg) (rest : List Nat) (L : Int) (v : Value) (wr : World) : Prop :=
  ∃ (q : Pg) (b : Bool) (cs : List Cmd) (A : Option Addr) (m c : Nat) (A0 : Option Addr) (n0 c0 : Nat), v = .slice A m c ∧ OutD wr w.heap.size A m c cs ∧ p.cmds = cs ++ q.cmds ∧ q.ok ∧ q.sz ≤ p.sz ∧ Rdr wr g B A0 n0 c0 ((if b then q.tx else q.tl) ++ rest) (L - (p.tot : Int) + (q.tot : Int)) ∧ q.tot ≤ p.tot ∧ Ch (· = g) w wr
def CmConD (p : Pg) : Prop := ∀ (w : World) (g B : Nat) (A : Option Addr) (n c : Nat) (rest : List Nat) (L : Int), (rest = [] ∨ ∃ r', rest = 125 :: r') → Rdr w g B A n c (p.tx ++ rest) L → (p.tot : Int) ≤ L → L ≤ 100000 → B ≤ w.heap.size →
    Calls Tryz.prog 97 #[.pointer (some ⟨g, 0, none⟩)] w (CmQD w g B p rest L)
set_option maxHeartbeats 8000000 in
set_option maxRecDepth 100000 in
theorem commandsY_stepD (p : Pg) (hok : p.ok) (hsz : p.sz ≤ 1000) (ih : ∀ b : Pg, b.sz < p.sz → b.ok → CmConD b) : CmConD p := by
  intro w g B A n c rest L hrest h hL hL2 hB
  obtain ⟨w1, hw1⟩ : ∃ w1, w1 = w.alloc (.cells #[] 44) := ⟨_, rfl⟩
  have hb1 : Below w.heap.size w w1 := by rw [hw1]; exact below_new _ _
  have HST : Hid (CmS2D w g B p rest L (.slice (some ⟨w.heap.size, 0, none⟩) 0 0) w1) := Lib.hid ⟨p, true, [], _, _, _, A, n, c, rfl, ⟨[], by rw [hw1]; exact ownN_lit w #[] 0 4 44 rfl (by omega), ⟨rfl, by simp⟩, by simp, by simp⟩, rfl, hok, Nat.le_refl _, by have h9 := h.below hb1; rw [show L - (p.tot : Int) + (p.tot : Int) = L by omega]; exact h9, Nat.le_refl _, ch_below hb1⟩
  have HL := Lib.hid hL; have HL2 := Lib.hid hL2; have HB := Lib.hid hB
  have HGL : Hid (g < w.heap.size) := Lib.hid h.lt
  have HRS := Lib.hid hrest; have HIH := Lib.hid ih; have HSZ := Lib.hid hsz
  clear h hL hL2 hB hb1 hrest ih hsz hok
  go_enter Tryz.func97, Tryz.ntmps97
  go_upto_region 2 with fail
  rw [← hw1]
  clear hw1
  go_loopw [3] (fun v wr => Hid (CmS2D w g B p rest L v wr)) (fun _ wr => rLen wr g)
  case atStart => exact HST
  case round =>
    clear HST
    obtain ⟨q, b, cs, A1, m, c1, A0, n0, c0, rfl, ho0, hcs, hqok, hqsz, hr0, hqt, hc0⟩ := hrel.out
    have HO0 := Lib.hid ho0; have HCS := Lib.hid hcs; have HC0 := Lib.hid hc0; have HQT := Lib.hid hqt; have HQZ := Lib.hid hqsz
    have HM : Hid (m ≤ 1000) := Lib.hid (by have h1 := ho0.len; have h2 := p.cmds_len; have h3 := HSZ.out; rw [hcs, List.length_append] at h2; omega)
    clear hrel ho0 hcs hc0 hqt hqsz
    have hnil : q = .nil ∨ q ≠ .nil := by cases q <;> simp
    rcases hnil with rfl | hq
    · have hr1 : Rdr wr g B A0 n0 c0 rest (L - (p.tot : Int)) := by
        have e : (if b = true then Pg.nil.tx else Pg.nil.tl) = [] := by cases b <;> rfl
        rw [e] at hr0
        simpa [Pg.tot] using hr0
      have HR1 := Lib.hid hr1
      have HE : Hid (p.cmds = cs ∧ m = p.sz) := Lib.hid (by
        have h1 := HCS.out
        simp only [Pg.cmds, List.append_nil] at h1
        refine ⟨h1, ?_⟩
        have h2 := HO0.out.len
        rw [← h1, p.cmds_len] at h2
        exact h2.symm)
      clear hr0 hr1 hqok
      rcases HRS.out with e | ⟨r', e⟩
      · have HPK : Hid (Calls Tryz.prog 136 #[.pointer (some ⟨g, 0, none⟩)] wr fun e w' => e = .returned (.int .i32 0) ∧ wr = w') := Lib.hid (by have h9 := HR1.out; rw [e] at h9; exact peek0_any wr g B _ _ _ _ h9)
        clear e
        go_wp2_with (go_at_call 136; refine HPK.out.mono ?_; rintro e w' ⟨rfl, rfl⟩)
        go_ret
        have h1 := HO0.out
        rw [← HE.out.1, HE.out.2] at h1
        rw [HE.out.2]
        exact ⟨A1, c1, rfl, h1, ⟨_, _, _, HR1.out⟩, HC0.out⟩
      · have HPK : Hid (Calls Tryz.prog 136 #[.pointer (some ⟨g, 0, none⟩)] wr fun e w' => e = .returned (.int .i32 125) ∧ wr = w') := Lib.hid (by have h9 := HR1.out; rw [e] at h9; exact peek_any wr g B _ _ _ _ _ _ h9)
        clear e
        go_wp2_with (go_at_call 136; refine HPK.out.mono ?_; rintro e w' ⟨rfl, rfl⟩)
        go_ret
        have h1 := HO0.out
        rw [← HE.out.1, HE.out.2] at h1
        rw [HE.out.2]
        exact ⟨A1, c1, rfl, h1, ⟨_, _, _, HR1.out⟩, HC0.out⟩
    · cases b with
      | false =>
        have HR0 : Hid (Rdr wr g B A0 n0 c0 (59 :: (q.tx ++ rest)) (L - (p.tot : Int) + (q.tot : Int))) := Lib.hid (by
          rcases q.tl_tx with e | e
          · exact absurd e hq
          · simpa [e] using hr0)
        have HQK := Lib.hid hqok
        clear hr0 hqok hq
        have HPK := Lib.hid (peek_any wr g B _ _ _ _ _ _ HR0.out)
        have HT := Lib.hid (take_any wr g B _ _ _ _ _ _ HR0.out (by decide))
        have x1 := blk_cell HR0.out.box 1 rfl
        go_upto_region 3 with (go_at_call 136; refine HPK.out.mono ?_; rintro e w' ⟨rfl, rfl⟩)
        clear x1
        go_wp2_with (go_at_call 137
                     refine HT.out.mono ?_
                     rintro e w2 ⟨rfl, ⟨A2, n2, c2, hr⟩, hc⟩
                     have HR2 := Lib.hid hr
                     have HO2 := Lib.hid (HO0.out.rdr HR0.out hc)
                     have HC2 : Hid (Ch (· = g) w w2) := Lib.hid (HC0.out.trans hc)
                     clear hr hc)
        go_roundw
        case rel => exact Lib.hid ⟨q, true, cs, A1, m, c1, A2, n2, c2, rfl, HO2.out, HCS.out, HQK.out, HQZ.out, HR2.out, HQT.out, HC2.out⟩
        case measure => exact HR0.out.less HR2.out (by simp)
      | true =>
        cases q with
        | nil => exact absurd rfl hq
        | set d x r =>
          obtain ⟨hd, hx, hxl, hrok⟩ := hqok
          obtain ⟨rr, hrr⟩ : ∃ rr, rr = 48 + d := ⟨_, rfl⟩
          have HR0 : Hid (Rdr wr g B A0 n0 c0 (rr :: 61 :: (x.rn ++ (r.tl ++ rest))) (L - (p.tot : Int) + (x.els.length : Int) + (r.tot : Int))) := Lib.hid (by
            rw [hrr]
            have h9 := hr0
            simp only [Pg.tx, Pg.tl, List.drop_succ_cons, List.drop_zero, if_true, Pg.tot, List.cons_append, List.append_assoc] at h9
            rw [show L - (p.tot : Int) + (x.els.length : Int) + (r.tot : Int) = L - (p.tot : Int) + ((x.els.length + r.tot : Nat) : Int) by omega]
            exact h9)
          have HRR := Lib.hid hrr; have HX := Lib.hid hx; have HXL := Lib.hid hxl; have HRK := Lib.hid hrok; have HD5 := Lib.hid hd
          have HRT : Hid (x.els.length + r.tot ≤ p.tot) := Lib.hid (by have h1 := HQT.out; simpa [Pg.tot] using h1)
          have i0 : ¬ (rr : Int) = 0 := by omega
          have i1 : ¬ (rr : Int) = 125 := by omega
          have i2 : ¬ (rr : Int) = 59 := by omega
          have i3 : ¬ (rr : Int) = 119 := by omega
          have j0 : ((rr : Int) == 0) = false := by rw [beq_eq_false_iff_ne]; exact i0
          have j1 : ((rr : Int) == 125) = false := by rw [beq_eq_false_iff_ne]; exact i1
          have j2 : ((rr : Int) == 59) = false := by rw [beq_eq_false_iff_ne]; exact i2
          have j3 : ((rr : Int) == 119) = false := by rw [beq_eq_false_iff_ne]; exact i3
          have k0 : ¬ rr = 0 := by omega
          have m0 : ((rr : Int) != 0) = true := bne_iff_ne.2 i0
          have m1 : ((rr : Int) != 125) = true := bne_iff_ne.2 i1
          clear hr0 hq hrr hx hxl hrok hd
          have HPK := Lib.hid (peek_any wr g B _ _ _ _ _ _ HR0.out)
          have HT := Lib.hid (take_any wr g B _ _ _ _ _ _ HR0.out (by have := HRR.out; omega))
          have x1 := blk_cell HR0.out.box 1 rfl
          go_upto_region 3 with (go_at_call 136; refine HPK.out.mono ?_; rintro e w' ⟨rfl, rfl⟩)
          clear x1
          go_upto_region 4 with (go_at_call 137
                                 refine HT.out.mono ?_
                                 rintro e w2 ⟨rfl, ⟨A2, n2, c2, hr⟩, hc⟩
                                 have HR2 := Lib.hid hr
                                 have HO2 := Lib.hid (HO0.out.rdr HR0.out hc)
                                 have HC2 : Hid (Ch (· = g) w w2) := Lib.hid (HC0.out.trans hc)
                                 clear hr hc)
          have hdg := digitV_any w2 g B _ _ _ _ _ HR2.out d HD5.out
          rw [← HRR.out] at hdg
          have HD := Lib.hid hdg
          clear hdg
          go_upto_region 6 with (go_at_call 140
                                 refine HD.out.mono ?_
                                 rintro e w3 ⟨rfl, hr, hc⟩
                                 have HR3 := Lib.hid hr
                                 have HO3 := Lib.hid (HO2.out.rdr HR2.out hc)
                                 have HC3 : Hid (Ch (· = g) w w3) := Lib.hid (HC2.out.trans hc)
                                 clear hr hc)
          clear i0 i1 i2 i3 j0 j1 j2 j3 k0 m0 m1
          have HT2 := Lib.hid (take_any w3 g B _ _ _ _ _ _ HR3.out (by decide))
          go_upto_region 7 with (go_at_call 137
                                 refine HT2.out.mono ?_
                                 rintro e w4 ⟨rfl, ⟨A4, n4, c4, hr⟩, hc⟩
                                 have HR4 := Lib.hid hr
                                 have HO4 := Lib.hid (HO3.out.rdr HR3.out hc)
                                 have HC4 : Hid (Ch (· = g) w w4) := Lib.hid (HC3.out.trans hc)
                                 clear hr hc)
          have HE := Lib.hid (exprY_any x HX.out w4 g B A4 n4 c4 (r.tl ++ rest) _ HR4.out (by have h1 := HRT.out; have h2 := HL.out; omega) (by have h1 := HRT.out; have h2 := HL2.out; omega) (Nat.le_trans HB.out HC4.out.size))
          go_wp2_with (first
            | (go_at_call 138
               refine HE.out.mono ?_
               rintro e w5 ⟨A5, c5, A6, n6, c6, rfl, ho, hr, hc⟩
               have HV5 := Lib.hid ho
               have HR5 := Lib.hid hr
               obtain ⟨us, hoo4, hii4⟩ := HO4.out
               have hoo := HR4.out.own hoo4 (by decide) hc
               have hii := hii4.rdr HR4.out hc
               have HUL := Lib.hid hii4.1.lt
               have HO5 := Lib.hid hoo; have HI5 := Lib.hid hii
               have HC5 : Hid (Ch (· = g) w w5) := Lib.hid (HC4.out.trans hc)
               have HZ5 : Hid (w.heap.size ≤ w5.heap.size) := Lib.hid HC5.out.size
               have HM2 : Hid (m ≤ 1099511627776) := Lib.hid (by have := HM.out; omega)
               clear ho hr hc hoo hii hoo4 hii4)
            | (at_builtin; go_must (refine wpList_app1N eltCm rfl _ _ rfl w5 w.heap.size (.slice A1 m c1) m (flatC cs us) (by rfl) HO5.out #[.int .i64 0, .int .i64 (d : Int), .int .i64 0, .slice A5 x.els.length c5] rfl (one4V _ _ _ _ _ _) (by rfl) HZ5.out HM2.out ?_); rintro A7 c7 w7 ho7 hb7 hg7
               have HO7 : Hid (OutD w7 w.heap.size A7 (m + 1) c7 (cs ++ [⟨0, (d : Int), 0, x.els⟩])) := Lib.hid (OutD.app1 HO5.out HI5.out HV5.out HC4.out.size HUL.out (by have := HXL.out; omega) ho7 hg7)
               have HR7 := Lib.hid ((HR5.out.row (B' := w.heap.size) HO5.out hg7 (by decide) HB.out))
               have HC7 : Hid (Ch (· = g) w w7) := Lib.hid (chg_row HC5.out HO5.out hg7)
               clear ho7 hb7 hg7))
          go_roundw
          case rel => exact Lib.hid ⟨r, false, _, A7, m + 1, c7, _, _, _, rfl, HO7.out, by rw [HCS.out]; simp [Pg.cmds], HRK.out, by have h1 := HQZ.out; simp only [Pg.sz] at h1; omega, by have h9 := HR7.out; rw [show L - (p.tot : Int) + (r.tot : Int) = L - (p.tot : Int) + (x.els.length : Int) + (r.tot : Int) - (x.els.length : Int) by omega]; exact h9, by have h1 := HRT.out; omega, HC7.out⟩
          case measure => exact HR0.out.less HR7.out (by simp; omega)
        | loop x bd r =>
          obtain ⟨hx, hxl, hbok, hrok⟩ := hqok
          have HR0 : Hid (Rdr wr g B A0 n0 c0 (119 :: (x.rn ++ (123 :: (bd.tx ++ (125 :: (r.tl ++ rest)))))) (L - (p.tot : Int) + (x.els.length : Int) + (bd.tot : Int) + (r.tot : Int))) := Lib.hid (by
            have h9 := hr0
            simp only [Pg.tx, Pg.tl, List.drop_succ_cons, List.drop_zero, if_true, Pg.tot, List.cons_append, List.append_assoc] at h9
            rw [show L - (p.tot : Int) + (x.els.length : Int) + (bd.tot : Int) + (r.tot : Int) = L - (p.tot : Int) + ((x.els.length + (bd.tot + r.tot) : Nat) : Int) by omega]
            exact h9)
          have HX := Lib.hid hx; have HXL := Lib.hid hxl; have HRK := Lib.hid hrok; have HBK := Lib.hid hbok
          have HRT : Hid (x.els.length + (bd.tot + r.tot) ≤ p.tot) := Lib.hid (by have h1 := HQT.out; simpa [Pg.tot] using h1)
          have HBZ : Hid (bd.sz + r.sz + 1 ≤ p.sz) := Lib.hid (by have h1 := HQZ.out; simpa [Pg.sz] using h1)
          clear hr0 hq hx hxl hrok hbok
          have HPK := Lib.hid (peek_any wr g B _ _ _ _ _ _ HR0.out)
          have HT := Lib.hid (take_any wr g B _ _ _ _ _ _ HR0.out (by decide))
          have x1 := blk_cell HR0.out.box 1 rfl
          go_upto_region 3 with (go_at_call 136; refine HPK.out.mono ?_; rintro e w' ⟨rfl, rfl⟩)
          clear x1
          go_upto_region 10 with (go_at_call 137
                                  refine HT.out.mono ?_
                                  rintro e w2 ⟨rfl, ⟨A2, n2, c2, hr⟩, hc⟩
                                  have HR2 := Lib.hid hr
                                  have HO2 := Lib.hid (HO0.out.rdr HR0.out hc)
                                  have HC2 : Hid (Ch (· = g) w w2) := Lib.hid (HC0.out.trans hc)
                                  clear hr hc)
          obtain ⟨us, hou2, hiu2⟩ := HO2.out
          have HOU2 := Lib.hid hou2; have HIU2 := Lib.hid hiu2; have HUL := Lib.hid hiu2.1.lt
          clear hou2 hiu2
          have HE := Lib.hid (exprY_any x HX.out w2 g B A2 n2 c2 _ _ HR2.out (by have h1 := HRT.out; have h2 := HL.out; omega) (by have h1 := HRT.out; have h2 := HL2.out; omega) (Nat.le_trans HB.out HC2.out.size))
          go_upto_region 11 with (go_at_call 138
                                  refine HE.out.mono ?_
                                  rintro e w3 ⟨A3, c3, A4, n4, c4, rfl, ho, hr, hc⟩
                                  have HV3 := Lib.hid ho
                                  have HR3 := Lib.hid hr
                                  have HO3 := Lib.hid (HR2.out.own HOU2.out (by decide) hc); have HI3 := Lib.hid (HIU2.out.rdr HR2.out hc)
                                  have HC3 : Hid (Ch (· = g) w w3) := Lib.hid (HC2.out.trans hc)
                                  have HS23 : Hid (w2.heap.size ≤ w3.heap.size) := Lib.hid hc.size
                                  clear ho hr hc)
          have HT2 := Lib.hid (take_any w3 g B _ _ _ _ _ _ HR3.out (by decide))
          go_upto_region 12 with (go_at_call 137
                                  refine HT2.out.mono ?_
                                  rintro e w4 ⟨rfl, ⟨A5, n5, c5, hr⟩, hc⟩
                                  have HR4 := Lib.hid hr
                                  have HO4 := Lib.hid (HR3.out.own HO3.out (by decide) hc); have HI4 := Lib.hid (HI3.out.rdr HR3.out hc)
                                  have HV4 := Lib.hid (HR3.out.own HV3.out (by decide) hc)
                                  have HC4 : Hid (Ch (· = g) w w4) := Lib.hid (HC3.out.trans hc)
                                  have HC23 : Hid (w2.heap.size ≤ w4.heap.size) := Lib.hid (Nat.le_trans HS23.out hc.size)
                                  clear hr hc)
          have HCM := Lib.hid (HIH.out bd (by have := HBZ.out; omega) HBK.out w4 g B A5 n5 c5 (125 :: (r.tl ++ rest)) _ (.inr ⟨_, rfl⟩) HR4.out (by have h1 := HRT.out; have h2 := HL.out; omega) (by have h1 := HRT.out; have h2 := HL2.out; omega) (Nat.le_trans HB.out HC4.out.size))
          go_upto_region 13 with (go_at_call 97
                                  refine HCM.out.mono ?_
                                  rintro e w5 ⟨A6, c6, rfl, hob, ⟨A7, n7, c7, hr⟩, hc⟩
                                  have HBO5 := Lib.hid hob
                                  have HR5 := Lib.hid hr
                                  have HO5 := Lib.hid (HR4.out.own HO4.out (by decide) hc); have HI5 := Lib.hid (HI4.out.rdr HR4.out hc)
                                  have HV5 := Lib.hid (HR4.out.own HV4.out (by decide) hc)
                                  have HC5 : Hid (Ch (· = g) w w5) := Lib.hid (HC4.out.trans hc)
                                  clear hob hr hc)
          have HT3 := Lib.hid (take_any w5 g B _ _ _ _ _ _ HR5.out (by decide))
          go_upto_region 14 with (go_at_call 137
                                  refine HT3.out.mono ?_
                                  rintro e w6 ⟨rfl, ⟨A8, n8, c8, hr⟩, hc⟩
                                  have HR6 := Lib.hid hr
                                  have HBO6 := Lib.hid (HBO5.out.rdr HR5.out hc)
                                  have HO6 := Lib.hid (HR5.out.own HO5.out (by decide) hc); have HI6 := Lib.hid (HI5.out.rdr HR5.out hc)
                                  have HV6 := Lib.hid (HR5.out.own HV5.out (by decide) hc)
                                  have HC6 : Hid (Ch (· = g) w w6) := Lib.hid (HC5.out.trans hc)
                                  clear hr hc)
          obtain ⟨vs, hbo, hbi⟩ := HBO6.out
          have HBO := Lib.hid hbo; have HBI := Lib.hid hbi
          have HLT : Hid (∀ q, Fo (.slice A1 m c1) q → q < w4.heap.size) := Lib.hid (fun q hq => (HO4.out.lt q hq).2)
          have HUL4 : Hid (∀ (i : Nat) (u : Value) (k : Nat), (us ++ [Value.slice A3 x.els.length c3])[i]? = some u → Fo u k → k < w4.heap.size) := Lib.hid (by
            intro i u k hu hk
            by_cases hi : i < us.length
            · rw [List.getElem?_append_left hi] at hu
              exact Nat.lt_of_lt_of_le (HUL.out i u k hu hk) HC23.out
            · rw [List.getElem?_append_right (by omega)] at hu
              have e : i - us.length = 0 := by
                cases h : i - us.length with
                | zero => rfl
                | succ m => rw [h] at hu; simp at hu
              rw [e] at hu
              simp at hu
              subst hu
              exact (HV4.out.lt k hk).2)
          have HZ6 : Hid (w.heap.size ≤ w6.heap.size) := Lib.hid HC6.out.size
          have HM2 : Hid (m ≤ 1099511627776) := Lib.hid (by have := HM.out; omega)
          have HM3 : Hid (m + 1 + bd.sz ≤ 1099511627776) := Lib.hid (by have := HM.out; have h1 := HBZ.out; have h2 := HSZ.out; omega)
          clear hbo hbi
          obtain ⟨bn, hbn⟩ : ∃ bn, bn = bd.sz := ⟨_, rfl⟩
          rw [← hbn] at HBO HM3 ⊢
          have HBN := Lib.hid hbn
          clear hbn
          go_wp2_with (first
            | (go_at_call 139; refine (sizeC_any _ _ _ _).mono ?_; rintro e w' ⟨rfl, rfl⟩)
            | (at_builtin; refine wpList_appSN eltCm rfl _ _ rfl w9 w.heap.size (.slice A9 (m + 1) c9) (m + 1) _ (by rfl) HO9.out A6 bn c6 (flatC bd.cmds vs) (by rfl) HB9.out (flatC_one _ _ HBI9.out.1.one4) HZ9.out HM3.out ?_
               rintro A10 c10 w10 ho10 hb10 hg10
               have HO10 : Hid (OutD w10 w.heap.size A10 (m + 1 + bn) c10 ((cs ++ [⟨1, 0, (bn : Int), x.els⟩]) ++ bd.cmds)) := Lib.hid (OutD.appS HO9.out HI9.out HBI9.out HC4.out.size HUL4.out ho10 hg10)
               have HR10 := Lib.hid ((HR9.out.row (B' := w.heap.size) HO9.out hg10 (by decide) HB.out))
               have HC10 : Hid (Ch (· = g) w w10) := Lib.hid (chg_row HC9.out HO9.out hg10)
               clear ho10 hb10 hg10)
            | (at_builtin; go_must (refine wpList_app1N eltCm rfl _ _ rfl w6 w.heap.size (.slice A1 m c1) m (flatC cs us) (by rfl) HO6.out #[.int .i64 1, .int .i64 0, .int .i64 (bn : Int), .slice A3 x.els.length c3] rfl (one4V _ _ _ _ _ _) (by rfl) HZ6.out HM2.out ?_); rintro A9 c9 w9 ho9 hb9 hg9
               have hii : InnD w.heap.size w9 (us ++ [.slice A3 x.els.length c3]) (cs ++ [⟨1, 0, (bn : Int), x.els⟩]) := HI6.out.app1 HO6.out HV6.out HC2.out.size HUL.out (by have := HXL.out; omega) hg9
               have hoo : w9.ownsRow w.heap.size 44 4 (.slice A9 (m + 1) c9) (m + 1) (flatC (cs ++ [⟨1, 0, (bn : Int), x.els⟩]) (us ++ [.slice A3 x.els.length c3])) := by rw [flatC_append _ _ _ _ HI6.out.1.1]; exact ho9
               have HO9 := Lib.hid hoo; have HI9 := Lib.hid hii
               have HR9 := Lib.hid ((HR6.out.row (B' := w.heap.size) HO6.out hg9 (by decide) HB.out))
               have HC9 : Hid (Ch (· = g) w w9) := Lib.hid (chg_row HC6.out HO6.out hg9)
               have HBI9 := Lib.hid (HBI.out.grow HO6.out hg9)
               have HB9 := Lib.hid (ownN_rd (own_ch HBO.out (ch_row hg9) (fun q h1 h2 => by have h3 := (HBO.out.lt q h1).1; have h4 := HLT.out q h2; omega)))
               have HZ9 : Hid (w.heap.size ≤ w9.heap.size) := Lib.hid HC9.out.size
               clear ho9 hb9 hg9 hoo hii))
          go_roundw
          case rel => exact Lib.hid ⟨r, false, _, A10, m + 1 + bn, c10, _, _, _, rfl, HO10.out, by rw [HCS.out]; simp [Pg.cmds, HBN.out, bd.cmds_len], HRK.out, by have h1 := HBZ.out; omega, by have h9 := HR10.out; rw [show L - (p.tot : Int) + (r.tot : Int) = L - (p.tot : Int) + (x.els.length : Int) + (bd.tot : Int) + (r.tot : Int) - (x.els.length : Int) - (bd.tot : Int) by omega]; exact h9, by have h1 := HRT.out; omega, HC10.out⟩
          case measure => exact HR0.out.less HR10.out (by simp; omega)
theorem commandsY_anyD : ∀ (n : Nat) (p : Pg), p.sz ≤ n → p.sz ≤ 1000 → p.ok → CmConD p
  | 0, p, h, h2, hok => commandsY_stepD p hok h2 (fun b hb _ => by omega)
  | n + 1, p, h, h2, hok => commandsY_stepD p hok h2 (fun b hb hbok => commandsY_anyD n b (by omega) (by omega) hbok)
end Go.Proofs.YtadmbphefpfbmaaGreatDoor
/- The universal program: UniversalWhile (program): each command's expression lies in a block of its own. Printed by mk_uxk.py out of XPqK and XUvJ. -/
namespace Go.Proofs.YtadmbphefpfbmaaGreatDoor
open Go.RowKit
set_option linter.unusedVariables false
set_option linter.unusedSimpArgs false
attribute [local go_sem ↓] Go.wp_at_zero Go.wp_at_succ
theorem OutD.base {w : World} {base b2 n c : Nat} {A : Option Addr} {cs : List Cmd} (h : OutD w base A n c cs) (hb : b2 ≤ base) : OutD w b2 A n c cs := by
  obtain ⟨us, h1, h2, h3, h4⟩ := h
  exact ⟨us, ownN_base h1 hb, h2, fun i u k h5 h6 => Nat.le_trans hb (h3 i u k h5 h6), h4⟩
theorem OutD.own {w : World} {base n c : Nat} {A : Option Addr} {cs : List Cmd} (h : OutD w base A n c cs) : OwnC w (fun k => base ≤ k ∧ k < w.heap.size) A n c cs := by
  obtain ⟨us, h1, h2, h3, h4⟩ := h
  refine ⟨us, ownN_base h1 (Nat.zero_le _), fun k hk => h1.lt k hk, ⟨h2.1, fun i u x hu hx => ?_, fun i j u v hu hv k hk hk' => h4 i j u v k hu hv hk hk'⟩, fun k hk => hk.2⟩
  obtain ⟨A', n', c', e, hn, _, ho⟩ := h2.2 i u x hu hx
  exact ⟨A', n', c', e, hn, ho, fun k hk => ⟨h3 i u k hu hk, h2.lt i u k hu hk⟩⟩
/-- What the reader leaves: the command of the text. -/
def WhQD (w : World) (p : Pg) (A : Option Addr) (c : Nat) (w' : World) : Prop := OutD w' w.heap.size A p.sz c p.cmds ∧ Below w.heap.size w w'
set_option maxHeartbeats 4000000 in
set_option maxRecDepth 100000 in
theorem ReadWhileY_anyD (p : Pg) (s : ByteArray) (hs : TxOk p s) (w : World) :
    Calls Tryz.prog 63 #[.string s] w (fun e w' => ∃ A c, e = .returned (.tuple #[.slice A p.sz c, .bool true]) ∧ WhQD w p A c w') := by
  have hru := hs.ru
  have hli := hs.line
  have hrl := hs.len
  have hcv0 := fun (w : World) => run_runes_of_string (P := Tryz.prog) w 9 145 21 s Tryz.underlying9 Tryz.underlying145 Tryz.underlying21 (by rw [hru]; simp; omega)
  rw [hru] at hcv0
  have hsz : (runesV p.tx).toArray.size = p.tx.length := by simp
  rw [hsz] at hcv0
  have hcv := hcv0 w
  have hge : p.tx.length ≤ grownCap w (p.tx.length) 0 21 := grownCap_ge w _ _ _
  generalize grownCap w (p.tx.length) 0 21 = G at hcv hge
  obtain ⟨w1, hw1⟩ : ∃ w1, w1 = w.drew.alloc (.cells ((runesV p.tx).toArray ++ Array.replicate (G - (p.tx.length)) (.int .i32 0)) 21) := ⟨_, rfl⟩
  rw [← hw1] at hcv
  obtain ⟨w2, hw2⟩ : ∃ w2, w2 = w1.alloc (.cells #[.slice (some ⟨w.heap.size, 0, none⟩) (p.tx.length) G, .bool false, .int .i64 3200] 147) := ⟨_, rfl⟩
  have hb1 : Below w.heap.size w w1 := by rw [hw1]; exact below_undrew (below_new w.drew _)
  have s1 : w1.heap.size = w.heap.size + 1 := by rw [hw1]; exact (show (w.drew.alloc _).heap.size = w.drew.heap.size + 1 by simp)
  have hb2 : Below w.heap.size w w2 := by rw [hw2]; exact hb1.alloc hb1.size _
  have hRd : Rd w1 (some ⟨w.heap.size, 0, none⟩) (p.tx.length) (runesV p.tx) := by
    refine ⟨by simp, fun _ => ⟨w.heap.size, 0, rfl, by omega, fun j u hu => ?_⟩⟩
    have hbx : w1.heap[w.heap.size]? = some (.cells ((runesV p.tx).toArray ++ Array.replicate (G - (p.tx.length)) (.int .i32 0)) 21 (0, 0)) := by rw [hw1]; exact box_new w.drew _ _
    rw [Nat.zero_add]
    refine blk_cell hbx j ?_
    have hj := (List.getElem?_eq_some_iff.1 hu).1
    rw [Array.getElem?_append_left (by simpa using hj)]
    simpa using hu
  have HR2 : Hid (Rdr w2 w1.heap.size (w.heap.size + 1) (some ⟨w.heap.size, 0, none⟩) (p.tx.length) G p.tx 3200) := Lib.hid ⟨by rw [hw2]; exact box_new _ _ _, by rw [hw2]; exact hRd.alloc _, fun _ b off e => by injection e with e; injection e with e1; omega, hge, fun b off _ e => by injection e with e; injection e with e1; omega⟩
  have HB2 := Lib.hid hb2
  have HS1 : Hid (w.heap.size ≤ w1.heap.size) := Lib.hid (by omega)
  have HLI := Lib.hid hli
  have HCM := Lib.hid (commandsY_anyD p.sz p (Nat.le_refl _) (by have := hs.s2; omega) hs.ok w2 w1.heap.size (w.heap.size + 1) _ _ _ [] 3200 (.inl rfl) (by rw [List.append_nil]; exact HR2.out) (by have := hs.tot; omega) (by omega) (by rw [hw2]; simp; omega))
  have HSS := Lib.hid hs
  clear hru hcv0 hsz hge hb1 s1 hb2 hRd hli hrl hs hw1
  go_enter Tryz.func63, Tryz.ntmps63
  go_upto_region 2 with fail
  rw [← hw2]
  clear hw2 hcv
  go_upto_region 3 with (go_at_call 97
                         refine HCM.out.mono ?_
                         rintro e w3 ⟨A3, c3, rfl, hcm, ⟨A4, n4, c4, hr4⟩, hc3⟩
                         have HB3 : Hid (Below w.heap.size w w3) := Lib.hid (below_ch HB2.out hc3 (fun q e => by have e1 : q = w1.heap.size := e; have h1 := HS1.out; omega) HB2.out.size)
                         have HCO := Lib.hid hcm
                         have HC1 : Hid (p.sz ≤ c3) := Lib.hid hcm.cap
                         have x1 := blk_cell hr4.box 1 rfl
                         clear hcm hr4 hc3)
  have HT := Lib.hid (WhileTextY_any p HSS.out.ok HSS.out.s2 (by have := HSS.out.len; have := p.tl_len; omega) w3 A3 c3 HCO.out.rdc HC1.out)
  have HPS : Hid (1 ≤ p.sz ∧ p.sz ≤ 80) := Lib.hid ⟨HSS.out.s1, HSS.out.s2⟩
  obtain ⟨pn, hpn⟩ : ∃ pn, pn = p.sz := ⟨_, rfl⟩
  rw [← hpn] at HT HPS HCO ⊢
  have HPN := Lib.hid hpn
  have i0 : ¬ (pn : Int) = 0 := by have := HPS.out; omega
  have i1 : ((pn : Int) == 0) = false := by rw [beq_eq_false_iff_ne]; exact i0
  have i2 : ¬ pn = 0 := by omega
  clear hpn
  go_wp2_with (go_at_call 98
               refine HT.out.mono ?_
               rintro e w4 ⟨rfl, hb4⟩
               rw [HLI.out]
               have HB4 := Lib.hid (bqcP hb4 HB3.out)
               have HCO4 := Lib.hid (HCO.out.below hb4)
               clear hb4)
  go_ret2
  have h9 := HCO4.out
  rw [HPN.out] at h9 ⊢
  exact ⟨A3, c3, rfl, ⟨h9.base HB2.out.size, HB4.out⟩⟩
set_option maxHeartbeats 400000 in
theorem whileOfY_anyD (p : Pg) (s : ByteArray) (hs : TxOk p s) (w : World) :
    Calls Tryz.prog 32 #[.string s] w (fun e w' => ∃ A c, e = .returned (.slice A p.sz c) ∧ WhQD w p A c w') := by
  have H := Lib.hid (ReadWhileY_anyD p s hs w)
  clear hs
  go_enter Tryz.func32, Tryz.ntmps32
  go_wp2_with (go_at_call 63
               refine H.out.mono ?_
               rintro e w2 ⟨A2, c2, rfl, hw⟩
               have HW := Lib.hid hw
               clear hw)
  go_ret
  exact ⟨A2, c2, rfl, HW.out⟩
set_option maxRecDepth 100000 in
set_option maxHeartbeats 16000000 in
theorem implUniversal_anyD (w : World) : Calls Tryz.prog 16 #[] w (fun e w' => ∃ A c, e = .returned (.slice A pgU.sz c) ∧ WhQD w pgU A c w') := by
  obtain ⟨w1, hw1⟩ : ∃ w1, w1 = w.alloc (.cells #[.string ⟨#[50, 61, 40, 110, 46, 50, 41]⟩, .string ⟨#[50, 61, 40, 48, 46, 50, 41]⟩, .string ⟨#[49, 61, 40, 104, 116, 116, 51, 46, 40, 116, 116, 116, 51, 46, 40, 104, 116, 51, 46, 49, 41, 41, 41]⟩, .string ⟨#[50, 61, 40, 40, 104, 116, 50, 46, 104, 50, 41, 46, 116, 116, 50, 41]⟩, .string ⟨#[50, 61, 40, 104, 104, 116, 50, 46, 116, 116, 50, 41]⟩, .string ⟨#[50, 61, 40, 116, 104, 116, 50, 46, 116, 116, 50, 41]⟩, .string ⟨#[50, 61, 40, 40, 104, 116, 50, 63, 104, 50, 41, 46, 116, 116, 50, 41]⟩, .string ⟨#[49, 61, 40, 116, 51, 46, 40, 40, 84, 56, 46, 110, 41, 46, 49, 41, 41]⟩, .string ⟨#[48, 61, 104, 50, 59, 50, 61, 116, 50]⟩, .string ⟨#[49, 61, 40, 104, 116, 51, 46, 40, 40, 84, 49, 48, 46, 51, 41, 46, 49, 41, 41]⟩, .string ⟨#[53, 61, 104, 50, 59, 50, 61, 116, 50, 59, 119, 53, 123, 53, 61, 110, 59, 49, 61, 40, 40, 84, 49, 49, 46, 116, 116, 116, 51, 41, 46, 40, 116, 51, 46, 49, 41, 41, 125]⟩, .string ⟨#[53, 61, 116, 51, 59, 119, 53, 123, 53, 61, 110, 59, 49, 61, 40, 104, 116, 51, 46, 40, 40, 84, 49, 49, 46, 116, 116, 51, 41, 46, 49, 41, 41, 125]⟩] 9) := ⟨_, rfl⟩
  have HB1 : Hid (Below w.heap.size w w1) := Lib.hid (by rw [hw1]; exact below_new _ _)
  have HT1 : Hid (w1.ownsRow 0 9 1 (.slice (some ⟨w.heap.size, 0, none⟩) 12 12) 12 tabU) := Lib.hid (by rw [hw1]; exact ownN_base (own_lit w #[.string ⟨#[50, 61, 40, 110, 46, 50, 41]⟩, .string ⟨#[50, 61, 40, 48, 46, 50, 41]⟩, .string ⟨#[49, 61, 40, 104, 116, 116, 51, 46, 40, 116, 116, 116, 51, 46, 40, 104, 116, 51, 46, 49, 41, 41, 41]⟩, .string ⟨#[50, 61, 40, 40, 104, 116, 50, 46, 104, 50, 41, 46, 116, 116, 50, 41]⟩, .string ⟨#[50, 61, 40, 104, 104, 116, 50, 46, 116, 116, 50, 41]⟩, .string ⟨#[50, 61, 40, 116, 104, 116, 50, 46, 116, 116, 50, 41]⟩, .string ⟨#[50, 61, 40, 40, 104, 116, 50, 63, 104, 50, 41, 46, 116, 116, 50, 41]⟩, .string ⟨#[49, 61, 40, 116, 51, 46, 40, 40, 84, 56, 46, 110, 41, 46, 49, 41, 41]⟩, .string ⟨#[48, 61, 104, 50, 59, 50, 61, 116, 50]⟩, .string ⟨#[49, 61, 40, 104, 116, 51, 46, 40, 40, 84, 49, 48, 46, 51, 41, 46, 49, 41, 41]⟩, .string ⟨#[53, 61, 104, 50, 59, 50, 61, 116, 50, 59, 119, 53, 123, 53, 61, 110, 59, 49, 61, 40, 40, 84, 49, 49, 46, 116, 116, 116, 51, 41, 46, 40, 116, 51, 46, 49, 41, 41, 125]⟩, .string ⟨#[53, 61, 116, 51, 59, 119, 53, 123, 53, 61, 110, 59, 49, 61, 40, 104, 116, 51, 46, 40, 40, 84, 49, 49, 46, 116, 116, 51, 41, 46, 49, 41, 41, 125]⟩] 12 9 rfl (by omega)) (Nat.zero_le _))
  go_enter Tryz.func16, Tryz.ntmps16
  go_upto_region 2 with fail
  rw [← hw1]
  clear hw1
  go_upto_region 3 with (first
    | (go_at_call 35; refine (tagText_any w1 8 (by omega) 8 rfl).mono ?_; rintro e w2 ⟨rfl, hb2⟩
       have HB2 := Lib.hid (bqcP hb2 HB1.out); have HT2 := Lib.hid (ownN_below HT1.out hb2 (Nat.le_refl _))
       clear hb2)
    | (go_at_call 35; refine (tagText_any w2 10 (by omega) 10 rfl).mono ?_; rintro e w3 ⟨rfl, hb3⟩
       have HB3 := Lib.hid (bqcP hb3 HB2.out); have HT3 := Lib.hid (ownN_below HT2.out hb3 (Nat.le_refl _))
       clear hb3)
    | (go_at_call 35; refine (tagText_any w3 11 (by omega) 11 rfl).mono ?_; rintro e w4 ⟨rfl, hb4⟩
       have HB4 := Lib.hid (bqcP hb4 HB3.out); have HT4 := Lib.hid (ownN_below HT3.out hb4 (Nat.le_refl _))
       clear hb4)
    | (go_at_call 34; refine (newRep_any _ (some ⟨w4.heap.size, 0, none⟩) 6 (tagB 8) (tagB 10) (tagB 11) (own_rd (own_lit w4 (usV (tagB 8) (tagB 10) (tagB 11)).toArray 6 9 rfl (by omega)))).mono ?_
       rintro e w5 ⟨p, rfl, hp, hp1, hp2, hb5⟩
       have hb5' : Below w4.heap.size w4 w5 := (below_new w4 _).trans (hb5.mono (by simp))
       have HB5 := Lib.hid (bqcP hb5' HB4.out); have HT5 := Lib.hid (ownN_below HT4.out hb5' (Nat.le_refl _))
       have HP5 := Lib.hid hp
       have HPL : Hid (w.heap.size ≤ p ∧ p < w5.heap.size) := Lib.hid ⟨by have h1 := HB4.out.size; simp at hp1; omega, hp2⟩
       clear hp hp1 hp2 hb5 hb5'))
  as_aux_lemma =>
  obtain ⟨w6, hw6⟩ : ∃ w6, w6 = w5.alloc (.cells #[.pointer none, .slice none 0 0] 54) := ⟨_, rfl⟩
  obtain ⟨b, hb⟩ : ∃ b, b = w5.heap.size := ⟨_, rfl⟩
  have hk6 : Below w5.heap.size w5 w6 := by rw [hw6]; exact below_new _ _
  have HB6 : Hid (Below w.heap.size w w6) := Lib.hid (bqcP hk6 HB5.out)
  have HT6 := Lib.hid (ownN_below HT5.out hk6 (Nat.le_refl _))
  have HP6 : Hid (RpA (tagB 8) (tagB 10) (tagB 11) w6 p) := Lib.hid (rpA_kpt HP5.out (kpt_bel hk6) (fun _ _ _ _ _ h => h))
  have HI6 : Hid (IsB w6 w.heap.size b []) := Lib.hid (by rw [hw6, hb]; exact isB_new w5 _ HB5.out.size)
  have HLP : Hid (w.heap.size ≤ p) := Lib.hid HPL.out.1
  clear hk6
  go_upto_region 4 with fail
  rw [← hw6, ← hb]
  clear hw6 hb HB1 HT1 HB2 HT2 HB3 HT3 HB4 HT4 HB5 HT5 HP5 HPL
  as_aux_lemma =>
  go_upto_region 5 with (go_at_call 36
                         refine (bWrite_any w6 w.heap.size b [] hdB HI6.out (by decide) HB6.out.size).mono ?_
                         rintro e w7 ⟨rfl, hi, hbel, hok⟩
                         obtain ⟨cs, hbb⟩ := isB_blk HI6.out
                         have HT7 := Lib.hid (own_kpt HT6.out (kpt_ok hok) (fun k cs hk => kpt_tab hok hbb k cs _ hk (by decide) (by decide)))
                         have HP7 : Hid (RpA (tagB 8) (tagB 10) (tagB 11) w7 p) := Lib.hid (rpA_kpt HP6.out (kpt_ok hok) (fun k cs T hk hT => kpt_tab hok hbb k cs T hk (by rcases hT with rfl | rfl | rfl | rfl | rfl <;> decide) (by rcases hT with rfl | rfl | rfl | rfl | rfl <;> decide)))
                         have HI7 : Hid (IsB w7 w.heap.size b (preL 0)) := Lib.hid hi
                         have HB7 := Lib.hid (HB6.out.trans hbel)
                         clear hi hbel hok hbb)
  clear HI6 HT6 HP6 HB6
  as_aux_lemma =>
  go_wp2_with fail
  go_loopw [15] (fun u wr => ∃ i : Nat, i ≤ 12 ∧ u = .int .i64 (i : Int) ∧ Hid (IsB wr w.heap.size b (preL i)) ∧ Hid (RpA (tagB 8) (tagB 10) (tagB 11) wr p) ∧ Hid (wr.ownsRow 0 9 1 (.slice (some ⟨w.heap.size, 0, none⟩) 12 12) 12 tabU) ∧ Hid (Below w.heap.size w wr)) (fun v _ => 12 - (intOf v).toNat)
  case atStart => exact ⟨0, by omega, rfl, HI7, HP7, HT7, HB7⟩
  case round =>
    clear HI7 HP7 HT7 HB7
    obtain ⟨i, hi, rfl, HI, HP, HT, HB⟩ := hrel
    by_cases hlt : i < 12
    · have hii : (i : Int) < 12 := by omega
      have hi0 : (0 : Int) ≤ (i : Int) := by omega
      obtain ⟨g, eg, hg, hgs, q0, _⟩ := own_get HT.out (k := i) (u := .string (partB i)) (tabU_at hlt)
      injection eg with eg
      injection eg with eg
      subst eg
      clear hg hgs
      have HLT : Hid (i < 12) := Lib.hid hlt
      have HSZ := Lib.hid (line_size i hlt)
      have HRP := Lib.hid (rp_all i hlt)
      have ht9 : (tagB i).size ≤ 1000 := by rw [← nm_size, nm_tagB]; exact tgL_len i
      have hr9 : (repB i).size ≤ 1000 := (part_size i).2
      go_wp2_with (first
        | (go_at_call 36
           refine (bWrite_any w9 w.heap.size b (preL i) ((((l1B ++ tagB i) ++ l2B) ++ repB i) ++ l3B) HI9.out HSZ.out HB9.out.size).mono ?_
           rintro e w10 ⟨rfl, hi, hbel, hok⟩
           obtain ⟨cs, hbb⟩ := isB_blk HI9.out
           have HT10 := Lib.hid (own_kpt HT9.out (kpt_ok hok) (fun k cs hk => kpt_tab hok hbb k cs _ hk (by decide) (by decide)))
           have HP10 : Hid (RpA (tagB 8) (tagB 10) (tagB 11) w10 p) := Lib.hid (rpA_kpt HP9.out (kpt_ok hok) (fun k cs T hk hT => kpt_tab hok hbb k cs T hk (by rcases hT with rfl | rfl | rfl | rfl | rfl <;> decide) (by rcases hT with rfl | rfl | rfl | rfl | rfl <;> decide)))
           rw [line_nm] at hi
           have HI10 : Hid (IsB w10 w.heap.size b (preL (i + 1))) := Lib.hid hi
           have HB10 := Lib.hid (HB9.out.trans hbel)
           clear hi hbel hok hbb)
        | (go_at_call 37
           refine (rpReplace_any (tagB 8) (tagB 10) (tagB 11) w8 p (partB i) (repB i) (rpA_split HP8.out) HRP.out (by have := (part_size i).1; omega) (by have := (part_size i).2; omega)).mono ?_
           rintro e w9 ⟨rfl, hp, hc⟩
           obtain ⟨ds, hpp⟩ := rpA_blk HP8.out
           have HP9 : Hid (RpA (tagB 8) (tagB 10) (tagB 11) w9 p) := Lib.hid (.inr hp)
           have HT9 := Lib.hid (own_kpt HT8.out (kpt_ch hc) (fun k cs hk => blk_two hk hpp (by decide)))
           have HI9 : Hid (IsB w9 w.heap.size b (preL i)) := Lib.hid (isB_kpt HI8.out (kpt_ch hc) (fun k cs T fz hk hT => blk_two hk hpp (by rcases hT with rfl | rfl <;> decide)))
           have HB9 := Lib.hid (below_ch HB8.out hc (fun q e => by have e1 : q = p := e; have := HLP.out; omega) HB8.out.size)
           clear hp hc hpp)
        | (go_at_call 35
           refine (tagText_any wr i (by omega) (i : Int) rfl).mono ?_
           rintro e w8 ⟨rfl, hb8⟩
           have HB8 := Lib.hid (bqcP hb8 HB.out)
           have HT8 := Lib.hid (ownN_below HT.out hb8 (Nat.le_refl _))
           have HP8 : Hid (RpA (tagB 8) (tagB 10) (tagB 11) w8 p) := Lib.hid (rpA_kpt HP.out (kpt_bel hb8) (fun _ _ _ _ _ h => h))
           have HI8 : Hid (IsB w8 w.heap.size b (preL i)) := Lib.hid (isB_kpt HI.out (kpt_bel hb8) (fun _ _ _ _ _ _ h => h))
           clear hb8))
      go_roundw
      case rel => exact ⟨i + 1, by have := HLT.out; omega, by go_num, HI10, HP10, HT10, HB10⟩
      case measure => have := HLT.out; simp [intOf]; omega
    · obtain rfl : i = 12 := by omega
      as_aux_lemma =>
      go_upto_region 11 with (go_at_call 36
                              refine (bWrite_any wr w.heap.size b (preL 12) l3B HI.out (by have := pre_len 12; have h : l3B.size = 1 := by decide
                                                                                           omega) HB.out.size).mono ?_
                              rintro e w8 ⟨rfl, hi, hbel, hok⟩
                              rw [pre_end] at hi
                              have HI8 := Lib.hid hi
                              have HB8 := Lib.hid (HB.out.trans hbel)
                              clear hi hbel hok)
      clear HI HP HT HB
      go_wp2_with (first
        | (go_at_call 32
           refine (whileOfY_anyD pgU txU ok_univ w9).mono ?_
           rintro e w10 ⟨A, c, rfl, hq⟩
           have HQ := Lib.hid hq
           clear hq)
        | (go_at_call 38
           refine (bString_any w8 w.heap.size b txU HI8.out HB8.out.size).mono ?_
           rintro e w9 ⟨rfl, hb9⟩
           have HB9 := Lib.hid (HB8.out.trans hb9)
           clear hb9))
      go_ret
      exact ⟨A, c, rfl, HQ.out.1.base HB9.out.size, bqcP HQ.out.2 HB9.out⟩
end Go.Proofs.YtadmbphefpfbmaaGreatDoor
/- The universal program: a program read from its text (reference): ReadWhile. -/
namespace Go.Proofs.YtadmbphefpfbmaaGreatDoor
open Go.RowKit
set_option linter.unusedVariables false
set_option linter.unusedSimpArgs false
attribute [local go_sem ↓] Go.wp_at_zero Go.wp_at_succ
set_option maxHeartbeats 4000000 in
set_option maxRecDepth 100000 in
theorem specReadWhileY_any (p : Pg) (s : ByteArray) (hs : TxOk p s) (hnb : p.nb) (hdp : p.dp ≤ 80) (w : World) : Calls Tryz.prog 65 #[.string s] w (fun e w' => ∃ A c, e = .returned (.tuple #[.slice A p.sz c, .bool true]) ∧ WhQ w p A c w') := by
  have hlen : p.tx.length = s.size := by rw [← hs.bs, nm_size]
  have H := Lib.hid (readAllY_any p.sz p (Nat.le_refl _) hs.s2 hs.ok w s 0 p.tx.length 80 (bsAt_of hs.bs) (by omega) (.inl hlen) (by omega) (by omega) (by have := hs.len; omega))
  have hne : s.toList.isEmpty = false := by
    have h1 := Pg.tx_pos hs.s1
    have h2 := hs.bs
    cases ht : p.tx with
    | nil => rw [ht] at h1; simp at h1
    | cons a l => rw [ht] at h2; exact (nm_ne h2).1
  have HIS : Hid (isW p.cmds = true) := Lib.hid (Pg.isw hs.ok hs.s2)
  have HTC := Lib.hid (l22TextY_any p.sz p (Nat.le_refl _) (by have := hs.s2; omega) hs.ok hnb hs.len)
  have HBS := Lib.hid hs.bs
  have HSZ := Lib.hid hs.s2
  clear hs hlen hnb hdp
  go_enter Tryz.func65, Tryz.ntmps65
  go_upto_region 2 with (go_at_call 62
                         refine H.out.mono ?_
                         rintro e w2 ⟨A2, c2, rfl, hcm, hb⟩
                         have HC := Lib.hid hcm; have HB := Lib.hid hb
                         clear hcm hb)
  obtain ⟨n, hn⟩ : ∃ n, n = p.sz := ⟨_, rfl⟩
  rw [← hn] at HC HSZ
  have HPN := Lib.hid hn
  rw [← hn]
  clear hn H
  go_wp2_with (first
    | (go_at_call 102
       refine (HTC.out w3 A2 n c2 (HC3.out.rdc) HC3.out.cap).mono ?_
       rintro e w4 ⟨s', rfl, hs', hb4⟩
       obtain rfl : s' = s := nm_inj (hs'.trans HBS.out.symm)
       have HC4 := Lib.hid (HC3.out.below hb4)
       have HB4 := Lib.hid (bqcP hb4 HB3.out)
       clear hs' hb4)
    | (go_at_call 56
       refine (l22Is_any w2 A2 n c2 p.cmds HC.out.rdc (by have := HSZ.out; omega)).mono ?_
       rw [HIS.out]
       rintro e w3 ⟨rfl, hb3⟩
       have HC3 := Lib.hid (HC.out.below hb3)
       have HB3 := Lib.hid (bqcP hb3 HB.out)
       clear hb3))
  go_ret2
  have h9 := HC4.out
  have hp := HPN.out
  subst hp
  exact ⟨A2, c2, rfl, h9, HB4.out⟩
end Go.Proofs.YtadmbphefpfbmaaGreatDoor
/- The universal program: UniversalWhile (reference). Printed by mk_uwb.py. -/
namespace Go.Proofs.YtadmbphefpfbmaaGreatDoor
open Go.RowKit
set_option linter.unusedVariables false
set_option linter.unusedSimpArgs false
attribute [local go_sem ↓] Go.wp_at_zero Go.wp_at_succ
set_option maxHeartbeats 4000000 in
set_option maxRecDepth 100000 in
theorem l23Const_any (w : World) (k : Nat) (hk : k ≤ 11) (x : Int) (hx : x = (k : Int)) : Calls Tryz.prog 64 #[.int .i64 x] w (fun e w' => e = .returned (.string (tagB k)) ∧ Below w.heap.size w w') := by
  have HT := Lib.hid (l23Tag_any w k hk x hx)
  have HTN : Hid ((tagTr k).nodes ≤ 1000) := Lib.hid (by have := tag_nodes k; omega)
  clear hx hk
  go_enter Tryz.func64, Tryz.ntmps64
  go_wp2_with (first
    | (go_at_call 99
       refine (l22ShowY_any (exT (tagTr k)) (exT_ok _) w3 A3 n3 c3 (by rw [exT_els]; exact ownN_rd HO3.out) HN3.out).mono ?_
       rintro e w4 ⟨rfl, hb4⟩
       have HB4 : Hid (Below w.heap.size w w4) := Lib.hid (bqcP hb4 HB3.out)
       clear hb4)
    | (go_at_call 100
       refine (l23Expr_any w2 A2 n2 c2 (tagTr k).bits (own_rd HO2.out) HN2.out).mono ?_
       rintro e w3 ⟨A3, n3, c3, rfl, ho3, hb3⟩
       have HO3 := Lib.hid ho3
       have HN3 : Hid (n3 ≤ 2000) := Lib.hid (by have h := own_el ho3; rw [List.length_map, Tr.bits_len] at h; have := HTN.out; omega)
       have HB3 : Hid (Below w.heap.size w w3) := Lib.hid (bqcP hb3 HB2.out)
       clear ho3 hb3)
    | (go_at_call 101
       refine HT.out.mono ?_
       rintro e w2 ⟨A2, n2, c2, rfl, ho2, hb2⟩
       have HO2 := Lib.hid ho2; have HB2 := Lib.hid hb2
       have HN2 : Hid (n2 ≤ 2000) := Lib.hid (by have h := ho2.1; rw [show (bools (tagTr k).bits).length = (tagTr k).bits.length by simp [bools], Tr.bits_len] at h; have := HTN.out; omega)
       clear ho2 hb2))
  go_ret
  exact ⟨rfl, HB4.out⟩
theorem eqS_7 : ((⟨#[49, 61, 40, 116, 51, 46, 40, 40]⟩ : ByteArray) ++ tagB 8) ++ ⟨#[46, 110, 41, 46, 49, 41, 41]⟩ = repB 7 := nm_inj (by rw [nm_app, nm_app, nm_tagB]; kernel_rfl)
theorem eqS_9 : ((⟨#[49, 61, 40, 104, 116, 51, 46, 40, 40]⟩ : ByteArray) ++ tagB 10) ++ ⟨#[46, 51, 41, 46, 49, 41, 41]⟩ = repB 9 := nm_inj (by rw [nm_app, nm_app, nm_tagB]; kernel_rfl)
theorem eqS_10 : ((⟨#[53, 61, 104, 50, 59, 50, 61, 116, 50, 59, 119, 53, 123, 53, 61, 110, 59, 49, 61, 40, 40]⟩ : ByteArray) ++ tagB 11) ++ ⟨#[46, 116, 116, 116, 51, 41, 46, 40, 116, 51, 46, 49, 41, 41, 125]⟩ = repB 10 := nm_inj (by rw [nm_app, nm_app, nm_tagB]; kernel_rfl)
theorem eqS_11 : ((⟨#[53, 61, 116, 51, 59, 119, 53, 123, 53, 61, 110, 59, 49, 61, 40, 104, 116, 51, 46, 40, 40]⟩ : ByteArray) ++ tagB 11) ++ ⟨#[46, 116, 116, 51, 41, 46, 49, 41, 41, 125]⟩ = repB 11 := nm_inj (by rw [nm_app, nm_app, nm_tagB]; kernel_rfl)
def tabS : List Value := [.string (repB 0), .string (repB 1), .string (repB 2), .string (repB 3), .string (repB 4), .string (repB 5), .string (repB 6), .string (repB 7), .string (repB 8), .string (repB 9), .string (repB 10), .string (repB 11)]
theorem tabS_at {k : Nat} (h : k < 12) : tabS[k]? = some (.string (repB k)) := by
  match k, h with
  | 0, _ => rfl
  | 1, _ => rfl
  | 2, _ => rfl
  | 3, _ => rfl
  | 4, _ => rfl
  | 5, _ => rfl
  | 6, _ => rfl
  | 7, _ => rfl
  | 8, _ => rfl
  | 9, _ => rfl
  | 10, _ => rfl
  | 11, _ => rfl
theorem tabS_lit : (#[.string ⟨#[50, 61, 40, 110, 46, 50, 41]⟩, .string ⟨#[50, 61, 40, 48, 46, 50, 41]⟩, .string ⟨#[49, 61, 40, 104, 116, 116, 51, 46, 40, 116, 116, 116, 51, 46, 40, 104, 116, 51, 46, 49, 41, 41, 41]⟩, .string ⟨#[50, 61, 40, 40, 104, 116, 50, 46, 104, 50, 41, 46, 116, 116, 50, 41]⟩, .string ⟨#[50, 61, 40, 104, 104, 116, 50, 46, 116, 116, 50, 41]⟩, .string ⟨#[50, 61, 40, 116, 104, 116, 50, 46, 116, 116, 50, 41]⟩, .string ⟨#[50, 61, 40, 40, 104, 116, 50, 63, 104, 50, 41, 46, 116, 116, 50, 41]⟩, .string ((⟨#[49, 61, 40, 116, 51, 46, 40, 40]⟩ ++ tagB 8) ++ ⟨#[46, 110, 41, 46, 49, 41, 41]⟩), .string ⟨#[48, 61, 104, 50, 59, 50, 61, 116, 50]⟩, .string ((⟨#[49, 61, 40, 104, 116, 51, 46, 40, 40]⟩ ++ tagB 10) ++ ⟨#[46, 51, 41, 46, 49, 41, 41]⟩), .string ((⟨#[53, 61, 104, 50, 59, 50, 61, 116, 50, 59, 119, 53, 123, 53, 61, 110, 59, 49, 61, 40, 40]⟩ ++ tagB 11) ++ ⟨#[46, 116, 116, 116, 51, 41, 46, 40, 116, 51, 46, 49, 41, 41, 125]⟩), .string ((⟨#[53, 61, 116, 51, 59, 119, 53, 123, 53, 61, 110, 59, 49, 61, 40, 104, 116, 51, 46, 40, 40]⟩ ++ tagB 11) ++ ⟨#[46, 116, 116, 51, 41, 46, 49, 41, 41, 125]⟩)] : Array Value).toList = tabS := by
  rw [eqS_7, eqS_9, eqS_10, eqS_11]; rfl
theorem txU_end {t : ByteArray} (h : nm t = preL 12) : t ++ l3B = txU := nm_inj (by rw [nm_app, h, pre_end])
theorem pgU_nb : pgU.nb := by
  simp only [pgU, pgB, Pg.nb, Pg.sz]
  decide
theorem tag_size (k : Nat) : (tagB k).size ≤ 1000 := by rw [← nm_size, nm_tagB]; exact tgL_len k
set_option maxHeartbeats 8000000 in
set_option maxRecDepth 100000 in
theorem specUniversal_any (w : World) : Calls Tryz.prog 33 #[] w (fun e w' => ∃ A c, e = .returned (.slice A pgU.sz c) ∧ WhQ w pgU A c w') := by
  have hz8 := tag_size 8
  have hz10 := tag_size 10
  have hz11 := tag_size 11
  go_enter Tryz.func33, Tryz.ntmps33
  go_upto_region 2 with (first
    | (go_at_call 64; refine (l23Const_any w4 11 (by omega) 11 rfl).mono ?_; rintro e w5 ⟨rfl, hb5⟩
       have HB5 := Lib.hid (bqcP hb5 HB4.out)
       clear hb5)
    | (go_at_call 64; refine (l23Const_any w3 11 (by omega) 11 rfl).mono ?_; rintro e w4 ⟨rfl, hb4⟩
       have HB4 := Lib.hid (bqcP hb4 HB3.out)
       clear hb4)
    | (go_at_call 64; refine (l23Const_any w2 10 (by omega) 10 rfl).mono ?_; rintro e w3 ⟨rfl, hb3⟩
       have HB3 := Lib.hid (bqcP hb3 HB2.out)
       clear hb3)
    | (go_at_call 64; refine (l23Const_any w 8 (by omega) 8 rfl).mono ?_; rintro e w2 ⟨rfl, hb2⟩
       have HB2 := Lib.hid hb2
       clear hb2))
  clear hz8 hz10 hz11
  obtain ⟨w6, hw6⟩ : ∃ w6, w6 = w5.alloc (.cells #[.string ⟨#[50, 61, 40, 110, 46, 50, 41]⟩, .string ⟨#[50, 61, 40, 48, 46, 50, 41]⟩, .string ⟨#[49, 61, 40, 104, 116, 116, 51, 46, 40, 116, 116, 116, 51, 46, 40, 104, 116, 51, 46, 49, 41, 41, 41]⟩, .string ⟨#[50, 61, 40, 40, 104, 116, 50, 46, 104, 50, 41, 46, 116, 116, 50, 41]⟩, .string ⟨#[50, 61, 40, 104, 104, 116, 50, 46, 116, 116, 50, 41]⟩, .string ⟨#[50, 61, 40, 116, 104, 116, 50, 46, 116, 116, 50, 41]⟩, .string ⟨#[50, 61, 40, 40, 104, 116, 50, 63, 104, 50, 41, 46, 116, 116, 50, 41]⟩, .string ((⟨#[49, 61, 40, 116, 51, 46, 40, 40]⟩ ++ tagB 8) ++ ⟨#[46, 110, 41, 46, 49, 41, 41]⟩), .string ⟨#[48, 61, 104, 50, 59, 50, 61, 116, 50]⟩, .string ((⟨#[49, 61, 40, 104, 116, 51, 46, 40, 40]⟩ ++ tagB 10) ++ ⟨#[46, 51, 41, 46, 49, 41, 41]⟩), .string ((⟨#[53, 61, 104, 50, 59, 50, 61, 116, 50, 59, 119, 53, 123, 53, 61, 110, 59, 49, 61, 40, 40]⟩ ++ tagB 11) ++ ⟨#[46, 116, 116, 116, 51, 41, 46, 40, 116, 51, 46, 49, 41, 41, 125]⟩), .string ((⟨#[53, 61, 116, 51, 59, 119, 53, 123, 53, 61, 110, 59, 49, 61, 40, 104, 116, 51, 46, 40, 40]⟩ ++ tagB 11) ++ ⟨#[46, 116, 116, 51, 41, 46, 49, 41, 41, 125]⟩)] 9) := ⟨_, rfl⟩
  have HB6 : Hid (Below w.heap.size w w6) := Lib.hid (by rw [hw6]; exact bqcP (below_new _ _) HB5.out)
  obtain ⟨g, hgn⟩ : ∃ g, g = w5.heap.size := ⟨_, rfl⟩
  have HT6 : Hid (w6.ownsRow 0 9 1 (.slice (some ⟨g, 0, none⟩) 12 12) 12 tabS) := Lib.hid (by
    rw [hw6, hgn, ← tabS_lit]
    exact ownN_base (own_lit w5 #[.string ⟨#[50, 61, 40, 110, 46, 50, 41]⟩, .string ⟨#[50, 61, 40, 48, 46, 50, 41]⟩, .string ⟨#[49, 61, 40, 104, 116, 116, 51, 46, 40, 116, 116, 116, 51, 46, 40, 104, 116, 51, 46, 49, 41, 41, 41]⟩, .string ⟨#[50, 61, 40, 40, 104, 116, 50, 46, 104, 50, 41, 46, 116, 116, 50, 41]⟩, .string ⟨#[50, 61, 40, 104, 104, 116, 50, 46, 116, 116, 50, 41]⟩, .string ⟨#[50, 61, 40, 116, 104, 116, 50, 46, 116, 116, 50, 41]⟩, .string ⟨#[50, 61, 40, 40, 104, 116, 50, 63, 104, 50, 41, 46, 116, 116, 50, 41]⟩, .string ((⟨#[49, 61, 40, 116, 51, 46, 40, 40]⟩ ++ tagB 8) ++ ⟨#[46, 110, 41, 46, 49, 41, 41]⟩), .string ⟨#[48, 61, 104, 50, 59, 50, 61, 116, 50]⟩, .string ((⟨#[49, 61, 40, 104, 116, 51, 46, 40, 40]⟩ ++ tagB 10) ++ ⟨#[46, 51, 41, 46, 49, 41, 41]⟩), .string ((⟨#[53, 61, 104, 50, 59, 50, 61, 116, 50, 59, 119, 53, 123, 53, 61, 110, 59, 49, 61, 40, 40]⟩ ++ tagB 11) ++ ⟨#[46, 116, 116, 116, 51, 41, 46, 40, 116, 51, 46, 49, 41, 41, 125]⟩), .string ((⟨#[53, 61, 116, 51, 59, 119, 53, 123, 53, 61, 110, 59, 49, 61, 40, 104, 116, 51, 46, 40, 40]⟩ ++ tagB 11) ++ ⟨#[46, 116, 116, 51, 41, 46, 49, 41, 41, 125]⟩)] 12 9 rfl (by omega)) (Nat.zero_le _))
  rw [← hw6, ← hgn]
  clear hw6 hgn HB5 HB4 HB3 HB2
  as_aux_lemma =>
  go_wp2_with fail
  go_loopw [2, 3] (fun u v wr => ∃ (t : ByteArray) (i : Nat), i ≤ 12 ∧ u = .string t ∧ v = .int .i64 (i : Int) ∧ Hid (nm t = preL i) ∧ Hid (wr.ownsRow 0 9 1 (.slice (some ⟨g, 0, none⟩) 12 12) 12 tabS) ∧ Hid (Below w.heap.size w wr)) (fun _ v _ => 12 - (intOf v).toNat)
  case atStart => exact ⟨_, 0, by omega, rfl, rfl, Lib.hid rfl, HT6, HB6⟩
  case round =>
    clear HT6 HB6
    obtain ⟨t, i, hi, rfl, rfl, HN, HT, HB⟩ := hrel
    have hz9 : t.size ≤ 100000 := by have h1 := pre_len i; rw [← HN.out, nm_size] at h1; omega
    by_cases hlt : i < 12
    · have hii : (i : Int) < 12 := by omega
      have hi0 : (0 : Int) ≤ (i : Int) := by omega
      obtain ⟨g', eg, hgl, hgs, q0, _⟩ := own_get HT.out (k := i) (u := .string (repB i)) (tabS_at hlt)
      injection eg with eg
      injection eg with eg
      subst eg
      have HQ0 : Hid (∀ wx, Below wr.heap.size wr wx → wx.cell? ⟨g, i, none⟩ = some (.string (repB i))) := Lib.hid (fun wx hb => (hb.cell (p := ⟨g, i, none⟩) hgs).trans q0)
      have hz1 := tag_size i
      have hz2 := (part_size i).2
      have hg1 : (9223372036854775807 < 7 + (tagB i).size) = False := eq_false (by omega)
      have hg2 : (9223372036854775807 < 7 + (tagB i).size + 9) = False := eq_false (by omega)
      have hg3 : (9223372036854775807 < 7 + (tagB i).size + 9 + (repB i).size) = False := eq_false (by omega)
      have hg4 : (9223372036854775807 < 7 + (tagB i).size + 9 + (repB i).size + 1) = False := eq_false (by omega)
      have hg5 : (9223372036854775807 < t.size + (7 + (tagB i).size + 9 + (repB i).size + 1)) = False := eq_false (by omega)
      have HNN : Hid (nm (t ++ ((((l1B ++ tagB i) ++ l2B) ++ repB i) ++ l3B)) = preL (i + 1)) := Lib.hid (by rw [nm_app, HN.out]; simp only [nm_app, nm_tagB]; rfl)
      have HLT : Hid (i < 12) := Lib.hid hlt
      clear hgl hgs q0 hlt hi
      go_wp2_with fail
      (first | (go_region_held3 (fun w' => w'.cell? ⟨g, i, none⟩ = some (.string (repB i))) (first | exact HQ0.out _ (Below.refl _ _) | exact HQ0.out _ (below_drew1 (Below.refl _ _)) | exact HQ0.out _ HBw.out | exact HQ0.out _ (below_drew1 HBw.out)) (first
        | (go_at_call 64
           refine (l23Const_any _ i (by have := HLT.out; omega) (i : Int) rfl).mono ?_
           rintro e w2 ⟨rfl, hb2⟩
           (try replace hb2 := und1 hb2)
           have HBw : Hid (Below wr.heap.size wr w2) := Lib.hid hb2
           clear hb2))) | fail)
      all_goals
        go_wp2_with fail
        go_roundw
        case rel => exact ⟨_, i + 1, HLT.out, rfl, by go_num, HNN, Lib.hid (ownN_below HT.out HBw.out (Nat.le_refl _)), Lib.hid (bqcP HBw.out HB.out)⟩
        case measure => have := HLT.out; simp [intOf]; omega
    · obtain rfl : i = 12 := by omega
      have HRW := Lib.hid (specReadWhileY_any pgU txU ok_univ pgU_nb pgU_dp wr)
      have htx := txU_end HN.out
      have HTX := Lib.hid htx
      clear htx
      as_aux_lemma =>
      go_wp2_with (go_at_call 65
                   first
                     | (rw [show t ++ (⟨#[125]⟩ : ByteArray) = txU from HTX.out])
                     | skip
                   refine HRW.out.mono ?_
                   rintro e w2 ⟨A, c, rfl, hq⟩
                   have HQ := Lib.hid hq
                   clear hq)
      go_ret
      obtain ⟨⟨us, h1, h2⟩, h3⟩ := HQ.out
      exact ⟨A, c, rfl, ⟨us, ownN_base h1 HB.out.size, h2⟩, bqcP h3 HB.out⟩
set_option maxHeartbeats 1000000 in
theorem specUniversalWhile_any (w : World) : Calls Tryz.prog 15 #[] w (fun e w' => ∃ A c, e = .returned (.slice A pgU.sz c) ∧ WhQ w pgU A c w') := by
  have H := Lib.hid (specUniversal_any w)
  go_enter Tryz.func15, Tryz.ntmps15
  go_wp2_with (go_at_call 33
               refine H.out.mono ?_
               rintro e w2 ⟨A, c, rfl, hq⟩
               have HQ := Lib.hid hq
               clear hq)
  go_ret
  exact ⟨A, c, rfl, HQ.out⟩
end Go.Proofs.YtadmbphefpfbmaaGreatDoor
/- The law on UniversalWhile. -/
namespace Go.Proofs.YtadmbphefpfbmaaGreatDoor
open Go.RowKit
set_option linter.unusedVariables false
set_option linter.unusedSimpArgs false
set_option maxRecDepth 100000 in
theorem uni_mk : mkC pgU.cmds ≤ 100000 := by decide
set_option maxHeartbeats 16000000 in
set_option maxRecDepth 100000 in
theorem lawUniversalWhile (w : World) :
    Calls Tryz.prog 5 #[] w fun e w' => e = .returned (.bool true) ∧ Below w.heap.size w w' := by
  have hS : ∀ w : World, Calls Tryz.prog 15 #[] w (fun e w' => ∃ A c, e = .returned (.slice A pgU.sz c) ∧ RdC w' A pgU.sz pgU.cmds ∧ Below w.heap.size w w') := fun w => (specUniversalWhile_any w).mono (by
    rintro e w' ⟨A, c, h1, h2, h3⟩
    exact ⟨A, c, h1, h2.rdc, h3⟩)
  have hI : ∀ w : World, Calls Tryz.prog 16 #[] w (fun e w' => ∃ A c, e = .returned (.slice A pgU.sz c) ∧ OwnC w' (fun k => w.heap.size ≤ k ∧ k < w'.heap.size) A pgU.sz c pgU.cmds ∧ Below w.heap.size w w') := fun w => (implUniversal_anyD w).mono (by
    rintro e w' ⟨A, c, h1, h2, h3⟩
    exact ⟨A, c, h1, h2.own, h3⟩)
  have hm := uni_mk
  have hn : pgU.sz ≤ 80 := by decide
  generalize pgU.cmds = cs at hS hI hm
  generalize pgU.sz = n at hS hI hn
  have HS := Lib.hid hS; have HI := Lib.hid hI; have HM := Lib.hid hm; have HN := Lib.hid hn
  clear hS hI hm hn
  go_enter Tryz.func5, Tryz.ntmps5
  go_wp2_with fail
  refine (HS.out w).mono ?_
  rintro e w1 ⟨A1, c1, rfl, hr1, hb1⟩
  have HR1 := Lib.hid hr1; have HB1 := Lib.hid hb1
  clear hr1 hb1
  go_wp2_with fail
  refine (HI.out w1).mono ?_
  rintro e w2 ⟨A2, c2, rfl, ho2, hb2⟩
  have HO2 := Lib.hid ho2; have HB2 := Lib.hid hb2
  clear ho2 hb2
  go_wp2_with fail
  refine (eqCommandS_same w2 A2 n c2 cs HO2.out.rdc (by have := HN.out; omega) A1 n c1 (HR1.out.below HB2.out (Nat.le_refl _))).mono ?_
  rintro e w3 ⟨rfl, hb3⟩
  have HO3 := Lib.hid (HO2.out.below hb3)
  have HB3 : Hid (Below w1.heap.size w1 w3) := Lib.hid (bqcP hb3 HB2.out)
  have HZ3 : Hid (w2.heap.size ≤ w3.heap.size) := Lib.hid hb3.size
  clear hb3
  go_wp2_with fail
  refine (markCommandS_any w3 _ A2 n c2 cs HO3.out (by have := HN.out; omega) (by have := HM.out; omega) 1 (by omega) (by omega)).mono ?_
  rintro e w4 ⟨rfl, ho4, hc4⟩
  have HO4 := Lib.hid ho4
  have HB4 : Hid (Below w1.heap.size w1 w4) := Lib.hid (below_ch HB3.out hc4 (fun k hk => hk.1) HB3.out.size)
  clear ho4 hc4
  obtain ⟨M, hM⟩ : ∃ M, M = mkC cs := ⟨_, rfl⟩
  have HMM := Lib.hid hM
  have hm0 : ¬ (1 + (M : Int)) < 0 := by omega
  have hm1 : ((1 + (M : Int)) != (1 + (M : Int))) = false := by simp
  rw [← hM]
  clear hM
  go_wp2_with fail
  refine (heldCommandS_any w4 A2 n c2 cs 1 HO4.out.rdc (by have := HN.out; omega) (by have := HM.out; omega) (by omega) (by omega)).mono ?_
  rw [← HMM.out]
  rintro e w5 ⟨rfl, hb5⟩
  have HB5 : Hid (Below w1.heap.size w1 w5) := Lib.hid (bqcP hb5 HB4.out)
  have HR5 := Lib.hid (HO4.out.rdc.below hb5 (Nat.le_refl _))
  clear hb5
  go_wp2_with fail
  refine (HI.out w5).mono ?_
  rintro e w6 ⟨A6, c6, rfl, ho6, hb6⟩
  have HR6 := Lib.hid ho6.rdc
  have HB6 : Hid (Below w1.heap.size w1 w6) := Lib.hid (bqcP hb6 HB5.out)
  have HU6 := Lib.hid (HR5.out.below hb6 (Nat.le_refl _))
  clear ho6 hb6
  go_wp2_with fail
  refine (eqCommandS_same w6 A6 n c6 cs HR6.out (by have := HN.out; omega) A1 n c1 (HR1.out.below HB6.out (Nat.le_refl _))).mono ?_
  rintro e w7 ⟨rfl, hb7⟩
  have HB7 : Hid (Below w1.heap.size w1 w7) := Lib.hid (bqcP hb7 HB6.out)
  have HU7 := Lib.hid (HU6.out.below hb7 (Nat.le_refl _))
  clear hb7
  go_wp2_with fail
  refine (heldCommandS_any w7 A2 n c2 cs 1 HU7.out (by have := HN.out; omega) (by have := HM.out; omega) (by omega) (by omega)).mono ?_
  rw [← HMM.out]
  rintro e w8 ⟨rfl, hb8⟩
  have HB8 : Hid (Below w1.heap.size w1 w8) := Lib.hid (bqcP hb8 HB7.out)
  clear hb8
  go_wp2_with fail
  go_ret
  exact ⟨rfl, bqcP HB8.out HB1.out⟩
end Go.Proofs.YtadmbphefpfbmaaGreatDoor
