/- Programs of registers (reference): a program and contents are drawn. -/
import Derived.Test.YtgnboemmlohahaaRrJ
namespace Go.Proofs.Ytgnboemmlohahaa
open Go.RowKit
set_option linter.unusedVariables false
set_option linter.unusedSimpArgs false
attribute [local go_sem ↓] Go.wp_at_zero Go.wp_at_succ
theorem lit_rd (w : World) (xs : List Int) (hl : xs.length ≤ 100) : Rd (w.alloc (.cells (ints xs).toArray 2)) (some ⟨w.heap.size, 0, none⟩) xs.length (ints xs) := by
  have h := own_rd (own_lit w (ints xs).toArray xs.length 2 (by simp) (by omega))
  simpa using h
theorem progOk_len {w w' : World} {m : Nat} {e : Ending} (h : ProgOk w m e w') : Below w.heap.size w w' := by
  obtain ⟨p, _, _, A, c, _, _, hb⟩ := h
  exact hb
theorem drawP_of {w0 w w1 w' : World} {g n c lim lim' m mx : Nat} {A : Option Addr} {p : List Ins} {e : Ending} (hc : Ch (· = g) w w1) (hs : SrcAt w1 g A n c lim') (hb : Below w0.heap.size w0 w1) (hp : ProgE w1 m p e w') (hok : okProg p = true) (hm : m ≤ mx) (hl : lim' ≤ lim) : DrawP w0 w g A n c lim mx e w' := by
  obtain ⟨A1, c1, rfl, ho, hb'⟩ := hp
  exact ⟨A1, m, c1, p, rfl, ⟨ownN_base ho hc.size, src_up (hs.below hb') hl, hc.trans (ch_below hb'), hb.trans (hb'.mono hb.size)⟩, hok, hm⟩
set_option maxHeartbeats 1000000 in
theorem l07Copy_any (w : World) : Calls Try.prog 27 #[.int .i64 0, .int .i64 1, .int .i64 2] w (ProgOk w 5) := by
  have H1 := Lib.hid (l07Move_any (w.alloc (.cells #[.int .i64 1, .int .i64 2] 2)) 0 (by omega) _ 2 2 [1, 2] (lit_rd w [1, 2] (by simp)) (by omega) (by simp))
  have H2 := Lib.hid (fun (w2 : World) => l07Move_any (w2.alloc (.cells #[.int .i64 0] 2)) 2 (by omega) _ 1 1 [0] (lit_rd w2 [0] (by simp)) (by omega) (by simp))
  go_enter Try.func27, Try.ntmps27
  go_wp2_with (first
    | (go_at_call 33
       have hh := H1.out
       refine hh.mono ?_
       rintro e w2 ⟨p, hp, hl, A2, c2, rfl, ho, hb⟩
       have HP := Lib.hid (And.intro hp hl)
       have HO := Lib.hid ho
       have HB : Hid (Below w.heap.size w w2) := Lib.hid (bqc hb (below_new _ _))
       clear hp hl ho hb hh H1)
    | (go_at_call 33
       have hh := H2.out w2
       have hk := HB.out
       refine hh.mono ?_
       rintro e w4 ⟨q, hp, hl, A4, c4, rfl, ho, hb⟩
       have HQ := Lib.hid (And.intro hp hl)
       have HO4 := Lib.hid (ownN_rd ho)
       have hb2 := bqc hb (below_new _ _)
       have HOP := Lib.hid (ownN_rd (ownN_below HO.out hb2 (Nat.le_refl _)))
       have HB4 : Hid (Below w.heap.size w w4) := Lib.hid (bqc hb2 hk)
       clear hp hl ho hb hb2 hh hk H2)
    | (go_at_call 29
       have hh := l07Join_any w4 A2 3 c2 p HOP.out HP.out.1 A4 2 c4 q HO4.out HQ.out.1
       refine hh.mono ?_
       rintro e w5 ⟨A5, c5, rfl, ho, hb⟩
       have HO5 := Lib.hid ho
       have HB5 := Lib.hid hb
       clear hh ho hb))
  go_ret
  refine ⟨joinR p q, join_ok HP.out.1 HQ.out.1 (by rw [HP.out.2, HQ.out.2]; omega), by simp [joinR, HP.out.2, HQ.out.2], A5, c5, rfl, ownN_base HO5.out HB4.out.size, bqc HB5.out HB4.out⟩
set_option maxHeartbeats 4000000 in
set_option maxRecDepth 100000 in
theorem l07DrawOk_any {w0 w : World} {g n c lim : Nat} {A : Option Addr} {bs : List Int} (hS : SrS w0 g A n bs) (hg : SrcAt w g A n c lim) (hb : Below w0.heap.size w0 w) (hl : lim ≤ 600000000) :
    Calls Try.prog 13 #[.pointer (some ⟨g, 0, none⟩)] w (DrawP w0 w g A n c (lim + 300) 20) := by
  have HPK := Lib.hid (fun (wx : World) (lx : Nat) (h1 : SrcAt wx g A n c lx) (h2 : Below w0.heap.size w0 wx) (h3 : lx ≤ 800000000) (m : Int) (h4 : 1 ≤ m) (h5 : m ≤ 1000000) => pickS hS h1 h2 h3 m h4 h5)
  have HFL := Lib.hid (fun (wx : World) (lx : Nat) (h1 : SrcAt wx g A n c lx) (h2 : Below w0.heap.size w0 wx) (h3 : lx ≤ 700000000) => l07DrawFlat_any hS h1 h2 h3)
  have HL := Lib.hid hl
  have HG := Lib.hid hg; have HB := Lib.hid hb
  clear hS hg hb hl
  go_enter Try.func13, Try.ntmps13
  go_upto_region 2 with (go_at_call 14
                         have hh := HPK.out w _ HG.out HB.out (by have := HL.out; omega) 6 (by omega) (by omega)
                         refine hh.mono ?_
                         rintro e w2 ⟨x, rfl, h10, h11, hs, hc, hb⟩
                         have HX := Lib.hid (And.intro h10 h11)
                         have HS2 := Lib.hid hs; have HC2 := Lib.hid hc; have HB2 := Lib.hid hb
                         clear h10 h11 hs hc hb hh HG HB)
  by_cases hx0 : x = 0
  · skip
    subst hx0
    go_wp2_with (go_at_call 27
                 have hh := l07Copy_any w2
                 refine hh.mono ?_
                 rintro e w3 ⟨p, hp, hl, A3, c3, rfl, ho, hb⟩
                 have HP := Lib.hid hp
                 have HE : Hid (ProgE w2 5 p (.returned (.slice A3 5 c3)) w3) := Lib.hid ⟨A3, c3, rfl, ho, hb⟩
                 clear hp hl ho hb hh)
    go_ret
    exact drawP_of HC2.out HS2.out HB2.out HE.out HP.out (by omega) (by omega)
  by_cases hx1 : x = 1
  · skip
    subst hx1
    go_wp2_with (first
      | (go_at_call 30
         have hh := l07Clear_any w2 2
         refine hh.mono ?_
         rintro e w3 ⟨A3, c3, rfl, ho, hb⟩
         have HO3 := Lib.hid ho; have HB3 := Lib.hid hb
         clear ho hb hh)
      | (go_at_call 29
         have hh := l07Join_any (w3.alloc (.cells #[.int .i64 1, .int .i64 0, .int .i64 1, .int .i64 1] 49)) A3 1 c3 [⟨1, 2, 0, 1⟩] (ownN_rd (ownN_below HO3.out (below_new _ _) (Nat.le_refl _))) rfl (some ⟨w3.heap.size, 0, none⟩) 1 1 [⟨1, 0, 1, 1⟩] (ownN_rd (ownN_lit w3 #[.int .i64 1, .int .i64 0, .int .i64 1, .int .i64 1] 1 4 49 rfl (by omega))) rfl
         refine hh.mono ?_
         rintro e w5 ⟨A5, c5, rfl, ho, hb⟩
         have HO5 := Lib.hid ho
         have HB5 : Hid (Below w2.heap.size w2 w5) := Lib.hid (bqc (bqc hb (below_new _ _)) HB3.out)
         clear ho hb hh)
      | (go_at_call 28
         have hh := l07Loop_any w5 0 A5 2 c5 _ (ownN_rd HO5.out) (join_ok (p := [⟨1, 2, 0, 1⟩]) (q := [⟨1, 0, 1, 1⟩]) rfl rfl (by simp)) (by omega)
         refine hh.mono ?_
         rintro e w6 ⟨A6, c6, rfl, ho, hb⟩
         have HE : Hid (ProgE w5 4 (loopR 0 2 (joinR [⟨1, 2, 0, 1⟩] [⟨1, 0, 1, 1⟩])) (.returned (.slice A6 4 c6)) w6) := Lib.hid ⟨A6, c6, rfl, ho, hb⟩
         clear ho hb hh))
    go_ret
    exact drawP_of (HC2.out.trans (ch_below HB5.out)) (HS2.out.below HB5.out) (HB2.out.trans (HB5.out.mono HB2.out.size)) HE.out (loop_ok (by omega) (join_ok (p := [⟨1, 2, 0, 1⟩]) (q := [⟨1, 0, 1, 1⟩]) rfl rfl (by simp)) rfl (by omega)) (by omega) (by omega)
  by_cases hx2 : x = 2
  · skip
    subst hx2
    go_wp2_with (first
      | (go_at_call 14
         have hh := HPK.out w2 _ HS2.out HB2.out (by have := HL.out; omega) 3 (by omega) (by omega)
         refine hh.mono ?_
         rintro e w3 ⟨r, rfl, h10, h11, hs, hc, hb⟩
         have HR := Lib.hid (And.intro h10 h11)
         have HS3 := Lib.hid hs; have HC3 := Lib.hid (HC2.out.trans hc); have HB3 := Lib.hid hb
         clear h10 h11 hs hc hb hh)
      | (go_at_call 32
         have hh := HFL.out w3 _ HS3.out HB3.out (by have := HL.out; omega)
         refine hh.mono ?_
         rintro e w4 ⟨A4, m4, c4, p, rfl, hf, hp, hm⟩
         have HF := Lib.hid hf; have HP := Lib.hid (And.intro hp hm)
         clear hf hp hm hh)
      | (go_at_call 33
         have hh := l07Move_any (w4.alloc (.cells #[.int .i64 0] 2)) 1 (by omega) _ 1 1 [0] (lit_rd w4 [0] (by simp)) (by omega) (by simp)
         refine hh.mono ?_
         rintro e w6 ⟨q, hq, hl, A6, c6, rfl, ho, hb⟩
         have HQ := Lib.hid (And.intro hq hl)
         have HO6 := Lib.hid (ownN_rd ho)
         have HB6 : Hid (Below w4.heap.size w4 w6) := Lib.hid (bqc hb (below_new _ _))
         clear hq hl ho hb hh)
      | (go_at_call 31
         have hh := l07Branch_any w6 r A4 m4 c4 p (ownN_rd (ownN_below HF.out.own HB6.out (Nat.le_refl _))) HP.out.1 A6 2 c6 q HO6.out HQ.out.1 (by omega)
         refine hh.mono ?_
         rintro e w7 ⟨A7, c7, rfl, ho, hb⟩
         have HE : Hid (ProgE w6 (2 + 2 + m4) (branchR r m4 2 p q) (.returned (.slice A7 (2 + 2 + m4) c7)) w7) := Lib.hid ⟨A7, c7, rfl, ho, hb⟩
         clear ho hb hh))
    go_ret
    have hpl := rd_lenF (ownN_rd HF.out.own)
    exact drawP_of ((HC3.out.trans HF.out.ch).trans (ch_below HB6.out)) (HF.out.src.below HB6.out) (HF.out.bel.trans (HB6.out.mono HF.out.bel.size)) HE.out (branch_ok (by have := HR.out; omega) HP.out.1 hpl HQ.out.1 HQ.out.2 (by have := HP.out.2; omega)) (by have := HP.out.2; omega) (by omega)
  by_cases hx3 : x = 3
  · skip
    subst hx3
    go_wp2_with (first
      | (go_at_call 33
         have hh := l07Move_any (w2.alloc (.cells #[.int .i64 1, .int .i64 2] 2)) 0 (by omega) _ 2 2 [1, 2] (lit_rd w2 [1, 2] (by simp)) (by omega) (by simp)
         refine hh.mono ?_
         rintro e w4 ⟨q, hq, hl, A4, c4, rfl, ho, hb⟩
         have HQ := Lib.hid (And.intro hq hl)
         have HO4 := Lib.hid ho
         have HB4 : Hid (Below w2.heap.size w2 w4) := Lib.hid (bqc hb (below_new _ _))
         clear hq hl ho hb hh)
      | (go_at_call 32
         have hs4 := HS2.out.below HB4.out
         have hh := HFL.out w4 _ hs4 (HB2.out.trans (HB4.out.mono HB2.out.size)) (by have := HL.out; omega)
         refine hh.mono ?_
         rintro e w5 ⟨A5, m5, c5, p, rfl, hf, hp, hm⟩
         have HF := Lib.hid hf; have HP := Lib.hid (And.intro hp hm)
         have HO5 := Lib.hid (ownN_rd (own_ch HO4.out hf.ch (fun q hq e => hs4.not (by decide) HO4.out (by rw [← e]; exact hq))))
         clear hf hp hm hh hs4)
      | (go_at_call 29
         have hh := l07Join_any w5 A4 3 c4 q HO5.out HQ.out.1 A5 m5 c5 p (ownN_rd HF.out.own) HP.out.1
         refine hh.mono ?_
         rintro e w7 ⟨A7, c7, rfl, ho, hb⟩
         have HE : Hid (ProgE w5 (3 + m5) (joinR q p) (.returned (.slice A7 (3 + m5) c7)) w7) := Lib.hid ⟨A7, c7, rfl, ho, hb⟩
         clear ho hb hh))
    go_ret
    have hpl := rd_lenF (ownN_rd HF.out.own)
    exact drawP_of ((HC2.out.trans (ch_below HB4.out)).trans HF.out.ch) HF.out.src HF.out.bel HE.out (join_ok HQ.out.1 HP.out.1 (by rw [HQ.out.2, hpl]; have := HP.out.2; omega)) (by have := HP.out.2; omega) (by omega)
  · skip
    have hq0 : (x == 0) = false := by rw [beq_eq_false_iff_ne]; exact hx0
    have hq1 : (x == 1) = false := by rw [beq_eq_false_iff_ne]; exact hx1
    have hq2 : (x == 2) = false := by rw [beq_eq_false_iff_ne]; exact hx2
    have hq3 : (x == 3) = false := by rw [beq_eq_false_iff_ne]; exact hx3
    clear hx0 hx1 hx2 hx3
    go_wp2_with (go_at_call 32
                 have hh := HFL.out w2 _ HS2.out HB2.out (by have := HL.out; omega)
                 refine hh.mono ?_
                 rintro e w4 ⟨A4, m4, c4, p, rfl, hf, hp, hm⟩
                 have HF := Lib.hid hf; have HP := Lib.hid (And.intro hp hm)
                 clear hf hp hm hh)
    go_ret
    exact ⟨A4, m4, c4, p, rfl, ⟨ownN_base HF.out.own HC2.out.size, src_up HF.out.src (by omega), HC2.out.trans HF.out.ch, HF.out.bel⟩, HP.out.1, by have := HP.out.2; omega⟩
end Go.Proofs.Ytgnboemmlohahaa
