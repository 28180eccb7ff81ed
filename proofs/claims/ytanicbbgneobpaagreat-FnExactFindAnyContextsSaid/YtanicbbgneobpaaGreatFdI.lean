/- FindContexts (program): one round. Written by mk_fdi.py. -/
import Derived.Test.YtanicbbgneobpaaGreatFdS
import Derived.Test.YtanicbbgneobpaaGreatGK
import Derived.Test.YtanicbbgneobpaaGreatRpI
import Derived.Deep.DrawnRows
namespace Go.Proofs.YtanicbbgneobpaaGreat
open Go.RowKit
set_option linter.unusedVariables false
set_option linter.unusedSimpArgs false
attribute [local go_sem ↓] Go.wp_at_zero Go.wp_at_succ
theorem fd_hcp {w : World} {F : Nat → Prop} {A : Option Addr} {n c : Nat} {xss : List (List Int)} (h : OwnP w F A n c xss) {k b off : Nat} {A' : Option Addr} {n' c' : Nat} (hA : A = some ⟨b, off, none⟩) (hk : k < n) (hc : w.cell? ⟨b, off + k, none⟩ = some (.slice A' n' c')) : n' ≤ c' := by
  have hl := h.len
  obtain ⟨us, h1, _, h3, _⟩ := h
  have hr := own_rd h1
  have hu : us.length = n := hr.1
  obtain ⟨u, hu1⟩ := get_some (xs := us) (k := k) (by omega)
  obtain ⟨x, hx⟩ := get_some (xs := xss) (k := k) (by omega)
  obtain ⟨A5, n5, c5, rfl, _, ho, _⟩ := h3.2.1 k u x hu1 hx
  obtain ⟨b2, off2, e2, _, h8⟩ := hr.at_ hu1
  rw [e2] at hA
  injection hA with hA
  injection hA with hb ho2 _
  subst hb
  subst ho2
  have h7 := ownN_cap ho
  rw [hc] at h8
  injection h8 with h8
  injection h8 with h9 h10 h11
  omega
theorem rdl1 {w : World} {A : Option Addr} {n c T : Nat} {xs : List Int} (h : Rd w A n (ints xs)) (hn : n ≤ 1000000000) :
    RdL (w.alloc (.cells #[.slice A n c] T)) (some ⟨w.heap.size, 0, none⟩) 1 [xs] := by
  refine ⟨[.slice A n c], own_rd (own_lit w #[.slice A n c] 1 T rfl (by omega)), rfl, ?_⟩
  intro i v zs hv hz
  match i, hv, hz with
  | 0, hv, hz =>
    obtain rfl : Value.slice A n c = v := by simpa using hv
    obtain rfl : xs = zs := by simpa using hz
    exact ⟨A, n, c, rfl, hn, h.alloc _⟩
  | i + 1, hv, hz => simp at hv
theorem noc_below {F : Nat → Prop} {w w' : World} (h : NoC F w) (hb : Below w.heap.size w w') : NoC F w' := fun k hk => by
  obtain ⟨o, ho, hc⟩ := h k hk
  exact ⟨o, (hb.block k (Array.getElem?_eq_some_iff.1 ho).1).trans ho, hc⟩
theorem cell_noc {F : Nat → Prop} {w w' : World} (hm : NoC F w) (hc : Ch F w w') {b off : Nat} {v : Value} (hl : b < w.heap.size) (h : w.cell? ⟨b, off, none⟩ = some v) : w'.cell? ⟨b, off, none⟩ = some v :=
  (World.cell?_of_block (a := ⟨b, off, none⟩) (hc.block b hl (noc_cell hm h))).trans h
theorem wrap_kf {k m : Nat} (h : k < m) (h2 : m ≤ 300) : wrap64 ((k : Int) + 1) = ((k + 1 : Nat) : Int) := by unfold wrap64; omega
theorem meas_kf {k m : Nat} (h : k < m) (h2 : m ≤ 300) : m - (intOf (.int .i64 (wrap64 ((k : Int) + 1)))).toNat < m - (intOf (.int .i64 (k : Int))).toNat := by
  rw [wrap_kf h h2]; simp only [intOf]; omega
theorem stated_repF (a : Int) : ∀ (n : Nat) (xss : List (List Int)), xss.length = n → stated (List.replicate n a) xss = xss.map (fun x => a :: x)
  | 0, xss, h => by obtain rfl := List.eq_nil_of_length_eq_zero h; rfl
  | n + 1, [], h => by simp at h
  | n + 1, x :: r, h => by
    have ih := stated_repF a n r (by simpa using h)
    unfold stated at ih ⊢
    rw [List.replicate_succ, List.zipWith_cons_cons, ih, List.map_cons]
theorem fd_sep {w w1 : World} {cs : Array Value} {T e n : Nat} {v : Value} {vs : List Value} (ho : w1.ownsRow (w.alloc (.cells cs T)).heap.size e 1 v n vs) : ¬ Fo v w.heap.size := fun h => by
  have h2 := (ho.lt _ h).1
  have h3 : (w.alloc (.cells cs T)).heap.size = w.heap.size + 1 := by simp
  omega
theorem fctx_sm {s : Nat} {t st : Int} {rs : List Rul} {y : List Int} (h : ctxC s t rs st y = 0) : ∀ z ∈ y, SmI z := fun z hz => by
  have h1 := ctx_let h z hz
  have h2 := (okM_all (ctx_zero h).1).1
  unfold SmI; omega
theorem SetsIn.drw {w : World} {p : ClP} {S : St3} {B : Nat} (h : SetsIn w p S B) : SetsIn w.drew p S B := h.below (below_drew1 (Below.refl _ _))
/-- What a round leaves. -/
def RndP (w : World) (p : ClP) (rs : List Rul) (S : St3) (B : Nat) (e : Ending) (w' : World) : Prop :=
  (roundF p.s rs S S.c = none ∧ e = .returned (.bool false) ∧ Ch p.F w w') ∨ (∃ S', roundF p.s rs S S.c = some S' ∧ e = .returned (.bool true) ∧ SetsIn w' p S' (B + 7 * S.c.length) ∧ Ch p.F w w')
theorem growR_no {s : Nat} {rs : List Rul} {S : St3} {st : Int} {y : List Int} {r : Rul} (hr : r = ruleOf s rs st y) (h : isR r = false) : growR s rs S (st :: y) = none := by
  show growF s rs S st y = none
  unfold growF; rw [← hr, h]; rfl
theorem growR_yes {s : Nat} {rs : List Rul} {S : St3} {st : Int} {y : List Int} {r : Rul} (hr : r = ruleOf s rs st y) (h : isR r = true) : growR s rs S (st :: y) = some (addF (nxF s r y (winF r y S)) (winF r y S)) := by
  show growF s rs S st y = _
  unfold growF; rw [← hr, h]; rfl
set_option maxHeartbeats 16000000 in
set_option maxRecDepth 100000 in
theorem round_any {rs : List Rul} (w : World) (p : ClP) (S : St3) (B : Nat) (h : SetsIn w p S B) (hi : InvF p.s p.t rs p.N S) (hm : okM p.s p.t rs = true) (hr : Rd w p.A (p.n * 3) (ints (flatR rs))) (hn : p.n ≤ 1099511627776) (hN : 1 ≤ p.N ∧ p.N ≤ 4) (hc : S.c.length ≤ 300) (hB : B ≤ 900000) :
    Calls Tryz.prog 96 #[.pointer (some ⟨p.gx, 0, none⟩)] w (RndP w p rs S B) := by
  have HSS : Hid (2 ≤ p.s ∧ p.s ≤ 6) := Lib.hid (by have := (okM_all hm).1; omega)
  have HN4 := Lib.hid hN; have HI := Lib.hid hi; have HOK := Lib.hid hm; have HR := Lib.hid hr; have HNN := Lib.hid hn; have HB9 := Lib.hid hB; have HC3 := Lib.hid hc
  have HSO := Lib.hid (sorted_c h hi HSS.out.2 hN.2 (by omega))
  have HSI := Lib.hid h
  have q5 := blk_cell h.box 5 rfl
  clear h hi hm hr hn hN hc hB
  go_enter Tryz.func96, Tryz.ntmps96
  go_wp2_with (go_at_call 46
               with_reducible refine (HSO.out).mono ?_
               rintro e w1 ⟨A1, m, d1, F1, rfl, ho1, hf1, hb1⟩)
  as_aux_lemma =>
  have HO1 := Lib.hid ho1
  have HB1 := Lib.hid hb1
  have HS1 := Lib.hid (HSI.out.below hb1)
  have HR1 := Lib.hid (HR.out.below hb1 (Nat.le_refl _))
  have HNC := Lib.hid HS1.out.noc
  have HCL : Hid (S.c.length = m) := Lib.hid ho1.len
  have HM3 : Hid (m ≤ 300) := Lib.hid (by have := HCL.out; have := HC3.out; omega)
  clear ho1 hf1 hb1 q5
  go_loopw [15] (fun q wr => ∃ (k : Nat) (Sk : St3), k ≤ m ∧ q = .int .i64 k ∧ Hid (roundF p.s rs S (S.c.take k) = some Sk) ∧ Hid (InvF p.s p.t rs p.N Sk) ∧ SetsIn wr p Sk (B + 7 * k) ∧ Ch p.F w1 wr) (fun q _ => m - (intOf q).toNat)
  case atStart => exact ⟨0, S, Nat.zero_le _, rfl, Lib.hid rfl, HI, HS1.out, Ch.refl _ _⟩
  case round =>
    as_aux_lemma =>
    obtain ⟨k, Sk, hk, rfl, HK, HIK, hsk, hch⟩ := hrel
    have HSK := Lib.hid hsk; have HCH := Lib.hid hch
    have HCW : Hid (Ch p.F w wr) := Lib.hid ((ch_below HB1.out).trans hch)
    by_cases hlt : k < m
    · obtain ⟨x, hx⟩ := get_some (xs := S.c) (k := k) (by rw [HCL.out]; exact hlt)
      have HX := Lib.hid hx
      have HLTK := Lib.hid hlt
      obtain ⟨st, y, rfl, hz, hyl⟩ := HI.out.wc x (List.mem_of_getElem? hx)
      have HZ := Lib.hid hz; have HYL := Lib.hid hyl
      obtain ⟨b3, o3, A5, n5, c5, e3, hl3, hc3, hn5, hr5⟩ := HO1.out.rdl.at_ hx
      have hcap : n5 ≤ c5 := fd_hcp HO1.out e3 hlt hc3
      have hlen : n5 = 2 * p.N + 2 := by have h1 := hr5.1; simp at h1; omega
      replace hc3 := cell_noc HNC.out hch hl3 hc3
      replace hr5 := rd_noc hr5 HNC.out hch
      obtain ⟨b5, o5, e5, hb5, q5⟩ := hr5.at_ (ints_get (xs := st :: y) (k := 0) (x := st) rfl)
      simp only [Nat.add_zero] at q5
      subst e3 e5
      have hcf := fun (w : World) => run_cutF Tryz.underlying25 Tryz.szI w (some ⟨b5, o5, none⟩) n5 c5 1 1 .i64 (by rfl) (by omega)
      have hrt : Rd wr (cutA (some ⟨b5, o5, none⟩) 1 c5 1) (n5 - 1) (ints y) := by have h := hr5.cut 1 c5 (by omega) hcap; simpa using h
      have hcap2 : n5 - 1 ≤ c5 - 1 := by omega
      generalize cutA (some ⟨b5, o5, none⟩) 1 c5 1 = AT at *
      obtain ⟨n6, hn6⟩ : ∃ n6, n6 = n5 - 1 := ⟨_, rfl⟩
      obtain ⟨c6, hc6⟩ : ∃ c6, c6 = c5 - 1 := ⟨_, rfl⟩
      rw [← hn6, ← hc6] at hcf
      rw [← hn6] at hrt
      rw [← hn6, ← hc6] at hcap2
      have hz0 : (0 : Int) < (n5 : Int) := by omega
      have hz1 : 0 < n5 := by omega
      have HN6 : Hid (n6 = 2 * p.N + 1) := Lib.hid (by omega)
      have HRT := Lib.hid hrt; have HCP2 := Lib.hid hcap2
      obtain ⟨⟨ra, mv, rc⟩, hru⟩ : ∃ r : Rul, r = ruleOf p.s rs st y := ⟨_, rfl⟩
      have HRX := Lib.hid hru
      obtain ⟨bo, hbo⟩ : ∃ b, b = isR ⟨ra, mv, rc⟩ := ⟨_, rfl⟩
      have HBO := Lib.hid hbo
      have HRM := Lib.hid (rd_noc HR1.out HNC.out hch)
      have HLO : Hid (∀ wx : World, Below wr.heap.size wr wx → Calls Tryz.prog 125 #[mchV p.s p.t p.A p.n p.c, .int .i64 st, .slice AT n6 c6] wx (fun e w' => ∃ A7 n7 c7, e = .returned (.tuple #[.agg #[.int .i64 ra, .int .i64 mv, .int .i64 rc], .slice A7 n7 c7, .bool bo]) ∧ w'.ownsRow wx.heap.size 2 1 (.slice A7 n7 c7) n7 (ints (if bo then lostOf ⟨ra, mv, rc⟩ y else [])) ∧ Below wx.heap.size wx w')) := Lib.hid (fun wx hbx => by
        have h := lost_any wx p.s p.t p.A p.n p.c rs (HRM.out.below hbx (Nat.le_refl _)) HNN.out st AT n6 c6 y (HRT.out.below hbx (Nat.le_refl _)) HCP2.out HZ.out
        rw [← HRX.out] at h
        unfold LosP at h
        rw [← HBO.out] at h
        exact h)
      have hmb := hsk.box
      have HMB := Lib.hid hmb
      have m0 := blk_cell hmb 0 rfl
      have m1 := blk_cell hmb 1 rfl
      have m2 := blk_cell hmb 2 rfl
      have ZZ := Lib.hid (box_new wr #[.int .i64 0, .int .i64 0, .int .i64 0] 97)
      have hma := blk_alloc hmb (.cells #[.int .i64 0, .int .i64 0, .int .i64 0] 97)
      have m0' := blk_cell hma 0 rfl
      have m1' := blk_cell hma 1 rfl
      have m2' := blk_cell hma 2 rfl
      have q5' := ((below_new wr (.cells #[.int .i64 0, .int .i64 0, .int .i64 0] 97)).cell (p := ⟨b5, o5, none⟩) hb5).trans q5
      have hml := blk_lt hmb
      have HQ5 := Lib.hid q5
      have HRFW : Hid (Below wr.heap.size wr wr) := Lib.hid (Below.refl _ _)
      clear hx hz hyl hr5 hrt hru hbo hn6 hc6 hn5 hcap hcap2 hl3 hmb hma hlen hsk hch
      go_upto_region 4 with fail
      go_cut [5, 6, 7] from 19 to 32 (fun s13 s14 s15 wx => ∃ (g6 : Nat) (A7 : Option Addr) (n7 c7 : Nat), s13 = .pointer (some ⟨g6, 0, none⟩) ∧ s14 = .slice A7 n7 c7 ∧ s15 = .bool bo ∧ wx.heap[g6]? = some (.cells #[.int .i64 ra, .int .i64 mv, .int .i64 rc] 97 (0, 0)) ∧ wx.ownsRow 0 2 1 (.slice A7 n7 c7) n7 (ints (if bo then lostOf ⟨ra, mv, rc⟩ y else [])) ∧ wr.heap.size ≤ g6 ∧ Below wr.heap.size wr wx)
      case first =>
        as_aux_lemma =>
        (first | (go_region_held3 (fun w' => w'.cell? ⟨p.gx, 0, none⟩ = some (.int .i64 p.s) ∧ w'.cell? ⟨p.gx, 1, none⟩ = some (.int .i64 p.t) ∧ w'.cell? ⟨p.gx, 2, none⟩ = some (.slice p.A p.n p.c) ∧ w'.cell? ⟨b5, o5, none⟩ = some (.int .i64 st)) (first | exact ⟨by assumption, by assumption, by assumption, by assumption⟩ | (refine ⟨?_, ?_, ?_, ?_⟩ <;> (repeat (refine cell_far ?_ (by omega))) <;> assumption) | go_keep) (first
          | (go_at_call 125
             refine (HLO.out _ (by first | exact Below.refl _ _ | exact below_new _ _ | exact below_drew1 (Below.refl _ _) | exact below_drew1 (below_new _ _))).mono ?_
             rintro e w2 ⟨A7, n7, c7, rfl, ho7, hb1⟩
             (try replace hb1 := und1 hb1)
             have HO7 : Hid (w2.ownsRow 0 2 1 (.slice A7 n7 c7) n7 (ints (if bo then lostOf ⟨ra, mv, rc⟩ y else []))) := Lib.hid (ownN_base ho7 (Nat.zero_le _))
             have HB2 : Hid (Below wr.heap.size wr w2) := Lib.hid (by first | exact hb1 | exact (below_new _ _).trans (hb1.mono (by simp)))
             (try (have hxz := blk_bel ZZ.out hb1; have y0 := blk_cell hxz 0 rfl; have y1 := blk_cell hxz 1 rfl; have y2 := blk_cell hxz 2 rfl; have f0 := blk_free hxz 0; have f1 := blk_free hxz 1; have f2 := blk_free hxz 2))
             (try (have HSEP : Hid (¬ Fo (.slice A7 n7 c7) wr.heap.size) := Lib.hid (fd_sep (cs := #[.int .i64 0, .int .i64 0, .int .i64 0]) (T := 97) (w := wr) ho7)))
             have z1 := blk_bel HMB.out HB2.out
             have m0 := blk_cell z1 0 rfl
             have m1 := blk_cell z1 1 rfl
             have m2 := blk_cell z1 2 rfl
             have q5 := (HB2.out.cell (p := ⟨b5, o5, none⟩) hb5).trans HQ5.out
             have hsz1 : wr.heap.size ≤ w2.heap.size := HB2.out.size
             clear z1 ho7))) | fail)
        all_goals
          go_wp2_with fail
          go_meet
          exact ⟨_, A7, n7, c7, rfl, rfl, rfl, (by first | exact box_new _ _ _ | simpa using blk_set (blk_set (blk_set hxz 0 _) 1 _) 2 _), (by first | exact ownN_below HO7.out (below_new _ _) (Nat.le_refl _) | exact own_set3 HO7.out HSEP.out), (by first | exact Nat.le_refl _ | exact hsz1), (by first | exact HB2.out.alloc HB2.out.size _ | exact ((HB2.out.setCell (Nat.le_refl _) _).setCell (Nat.le_refl _) _).setCell (Nat.le_refl _) _ | exact below_drew1 (HB2.out.alloc HB2.out.size _) | exact below_drew1 (((HB2.out.setCell (Nat.le_refl _) _).setCell (Nat.le_refl _) _).setCell (Nat.le_refl _) _))⟩
      case rest =>
        as_aux_lemma =>
        obtain ⟨g6, A7, n7, c7, rfl, rfl, rfl, hx6, ho7, hg6, hbc⟩ := hcut
        obtain ⟨w2, rfl⟩ : ∃ v, v = wc := ⟨_, rfl⟩
        have HX6 := Lib.hid hx6; have HO7 := Lib.hid ho7; have HBC := Lib.hid hbc
        have HSK2 := Lib.hid (HSK.out.below hbc)
        have HRT2 := Lib.hid (HRT.out.below hbc (Nat.le_refl _))
        have HCW2 : Hid (Ch p.F w w2) := Lib.hid (HCW.out.trans (ch_below hbc))
        have HCH2 : Hid (Ch p.F w1 w2) := Lib.hid (HCH.out.trans (ch_below hbc))
        have HTL : Hid (S.c = S.c.take k ++ (st :: y) :: S.c.drop (k + 1)) := Lib.hid (by
          obtain ⟨hkl, he⟩ := List.getElem?_eq_some_iff.1 HX.out
          rw [← he, ← List.drop_eq_getElem_cons hkl, List.take_append_drop])
        have z1 := blk_cell hx6 1 rfl
        have z0 := blk_cell hx6 0 rfl
        have z2 := blk_cell hx6 2 rfl
        have hbx2 := HSK2.out.box
        have x0 := blk_cell hbx2 0 rfl
        have x1 := blk_cell hbx2 1 rfl
        have x2 := blk_cell hbx2 2 rfl
        have x3 := blk_cell hbx2 3 rfl
        have x4 := blk_cell hbx2 4 rfl
        have x5 := blk_cell hbx2 5 rfl
        clear hx6 ho7 hbc hg6 m0 m1 m2 m0' m1' m2' q5 q5' hbx2
        cases bo with
        | false =>
          as_aux_lemma =>
          have HVF : Hid (roundF p.s rs S S.c = none) := Lib.hid (by rw [HTL.out]; exact roundF_none HK.out (growR_no HRX.out HBO.out.symm))
          go_wp2_with fail
          go_ret
          exact Or.inl ⟨HVF.out, rfl, HCW2.out⟩
        | true =>
          as_aux_lemma =>
          have hmv := isR_mv HZ.out (by rw [← HRX.out]; exact HBO.out.symm)
          rw [← HRX.out] at hmv
          simp only at hmv
          rcases hmv with rfl | rfl
          · as_aux_lemma =>
            have HMV : Hid ((1 : Int) = 1 ∨ (1 : Int) = -1) := Lib.hid (by decide)
            have HISR : Hid (isR ⟨ra, 1, rc⟩ = true) := Lib.hid HBO.out.symm
            have HB6 : Hid (B + 7 * k ≤ 999000) := Lib.hid (by have := HB9.out; have := HLTK.out; have := HM3.out; omega)
            have HLL : Hid (letB p.s p.N (lostOf ⟨ra, 1, rc⟩ y)) := Lib.hid (lost_let HZ.out HYL.out _)
            have HRW : Hid (Rd w2 A7 n7 (ints (lostOf ⟨ra, 1, rc⟩ y))) := Lib.hid (own_rd HO7.out)
            have HN7 : Hid (n7 ≤ 1000000000) := Lib.hid (by have h1 := HRW.out.1; have h2 := HLL.out.1; have := HN4.out; simp only [List.length_map] at h1; omega)
            have HIW : Hid (InvF p.s p.t rs p.N (winF ⟨ra, 1, rc⟩ y Sk)) := Lib.hid (winF_inv HIK.out HZ.out HYL.out _)
            have HWE : Hid (∀ (wx : World) (B : Nat) (e : Ending) (w' : World), AddR wx p ⟨putL Sk.l (lostOf ⟨ra, 1, rc⟩ y), Sk.r, Sk.c⟩ B e w' → AddR wx p (winF ⟨ra, 1, rc⟩ y Sk) B e w') := Lib.hid (fun wx B e w' h => h)
            have HAD : Hid (Calls Tryz.prog 126 #[.pointer (some ⟨p.gl, 0, none⟩), .slice (some ⟨w2.heap.size, 0, none⟩) 1 1] (w2.alloc (.cells #[.slice A7 n7 c7] 25)) (AddR (w2.alloc (.cells #[.slice A7 n7 c7] 25)) p (winF ⟨ra, 1, rc⟩ y Sk) (B + 7 * k + 1))) := Lib.hid (
              (add_l (HSK2.out.below (below_new w2 _)) HSS.out.2 HN4.out.2 (by have := HB6.out; omega) _ 1 1 (lostOf ⟨ra, 1, rc⟩ y) (rdl1 HRW.out HN7.out) HLL.out).mono (fun e w' h => HWE.out _ _ _ _ h))
            have e1 : (((1 : Int)) == 1) = true := by decide
            have e2 : (((1 : Int)) == -1) = false := by decide
            go_upto_region 11 with (go_at_call 126
                                    with_reducible refine (HAD.out).mono ?_
                                    rintro e w5 ⟨rfl, hs5, hc5⟩)
            as_aux_lemma =>
            have HS5 := Lib.hid hs5
            have HC25 : Hid (Ch p.F w2 w5) := Lib.hid ((ch_alloc _ w2 _).trans hc5)
            have HNC2 := Lib.hid HSK2.out.noc
            have HX65 : Hid (w5.heap[g6]? = some (.cells #[.int .i64 ra, .int .i64 (1), .int .i64 rc] 97 (0, 0))) := Lib.hid (blk_ch HX6.out HC25.out (noc_blk HNC2.out HX6.out))
            have HRT5 := Lib.hid (rd_noc HRT2.out HNC2.out HC25.out)
            have HFW : Hid (∀ (wx : World), Below w5.heap.size w5 wx → Calls Tryz.prog 128 #[mchV p.s p.t p.A p.n p.c, rulV ⟨ra, 1, rc⟩, .slice AT n6 c6, .pointer (some ⟨p.gl, 0, none⟩), .pointer (some ⟨p.gr, 0, none⟩)] wx (RetP wx (nextsOf p.s ⟨ra, 1, rc⟩ y (winF ⟨ra, 1, rc⟩ y Sk).l (winF ⟨ra, 1, rc⟩ y Sk).r))) := Lib.hid (fun wx hbx => foll_any wx p (winF ⟨ra, 1, rc⟩ y Sk) _ (HS5.out.below hbx) HIW.out HSS.out.2 HN4.out ra (1) rc (by decide) AT n6 c6 y (HRT5.out.below hbx (Nat.le_refl _)) HCP2.out HN6.out (fctx_sm HZ.out))
            have HNL : Hid ((nextsOf p.s ⟨ra, 1, rc⟩ y (winF ⟨ra, 1, rc⟩ y Sk).l (winF ⟨ra, 1, rc⟩ y Sk).r).length ≤ 6) := Lib.hid (Nat.le_trans (nexts_len _ _ _ _ _) HSS.out.2)
            have HNG : Hid (∀ z ∈ nextsOf p.s ⟨ra, 1, rc⟩ y (winF ⟨ra, 1, rc⟩ y Sk).l (winF ⟨ra, 1, rc⟩ y Sk).r, ctxC p.s p.t rs rc z = 0 ∧ z.length = 2 * p.N + 1) := Lib.hid (fun z hz => by
              have h := next_row (ls := (winF ⟨ra, 1, rc⟩ y Sk).l) (ws := (winF ⟨ra, 1, rc⟩ y Sk).r) HZ.out (by rw [← HRX.out]; exact HISR.out) HYL.out (z := z) (by rw [← HRX.out]; exact hz)
              rw [← HRX.out] at h
              exact h)
            have HGW : Hid (growR p.s rs Sk (st :: y) = some (addF (nxF p.s ⟨ra, 1, rc⟩ y (winF ⟨ra, 1, rc⟩ y Sk)) (winF ⟨ra, 1, rc⟩ y Sk))) := Lib.hid (growR_yes HRX.out HISR.out)
            have HSX5 : Hid (∀ wx : World, Below w5.heap.size w5 wx → wx.cell? ⟨p.gx, 0, none⟩ = some (.int .i64 p.s) ∧ wx.cell? ⟨p.gx, 1, none⟩ = some (.int .i64 p.t) ∧ wx.cell? ⟨p.gx, 2, none⟩ = some (.slice p.A p.n p.c) ∧ wx.cell? ⟨p.gx, 3, none⟩ = some (.pointer (some ⟨p.gl, 0, none⟩)) ∧ wx.cell? ⟨p.gx, 4, none⟩ = some (.pointer (some ⟨p.gr, 0, none⟩)) ∧ wx.cell? ⟨p.gx, 5, none⟩ = some (.pointer (some ⟨p.gc, 0, none⟩)) ∧ wx.cell? ⟨g6, 0, none⟩ = some (.int .i64 ra) ∧ wx.cell? ⟨g6, 1, none⟩ = some (.int .i64 (1)) ∧ wx.cell? ⟨g6, 2, none⟩ = some (.int .i64 rc)) := Lib.hid (fun wx hbx => by
              have hz := (HS5.out.below hbx).box
              have hy := blk_bel HX65.out hbx
              exact ⟨blk_cell hz 0 rfl, blk_cell hz 1 rfl, blk_cell hz 2 rfl, blk_cell hz 3 rfl, blk_cell hz 4 rfl, blk_cell hz 5 rfl, blk_cell hy 0 rfl, blk_cell hy 1 rfl, blk_cell hy 2 rfl⟩)
            have HRF5 : Hid (Below w5.heap.size w5 w5) := Lib.hid (Below.refl _ _)
            have HRD5 : Hid (Below w5.heap.size w5 w5.drew) := Lib.hid (below_drewN (n := 1) (Below.refl _ _))
            clear x0 x1 x2 x3 x4 x5 z0 z1 z2 hs5 hc5 e1 e2
            obtain ⟨x0, x1, x2, x3, x4, x5, z0, z1, z2⟩ := HSX5.out _ HRF5.out
            as_aux_lemma =>
            (first | (go_region_held3 (fun w' => w'.cell? ⟨p.gx, 0, none⟩ = some (.int .i64 p.s) ∧ w'.cell? ⟨p.gx, 1, none⟩ = some (.int .i64 p.t) ∧ w'.cell? ⟨p.gx, 2, none⟩ = some (.slice p.A p.n p.c) ∧ w'.cell? ⟨p.gx, 3, none⟩ = some (.pointer (some ⟨p.gl, 0, none⟩)) ∧ w'.cell? ⟨p.gx, 4, none⟩ = some (.pointer (some ⟨p.gr, 0, none⟩)) ∧ w'.cell? ⟨p.gx, 5, none⟩ = some (.pointer (some ⟨p.gc, 0, none⟩)) ∧ w'.cell? ⟨g6, 0, none⟩ = some (.int .i64 ra) ∧ w'.cell? ⟨g6, 1, none⟩ = some (.int .i64 (1)) ∧ w'.cell? ⟨g6, 2, none⟩ = some (.int .i64 rc)) (first | exact HSX5.out _ HRF5.out | exact HSX5.out _ HRD5.out | exact HSX5.out _ HB11x.out | exact HSX5.out _ HB12x.out | exact HSX5.out _ (below_drew1 HB11x.out) | exact HSX5.out _ (below_drew1 HB12x.out) | exact HSX7.out | exact ⟨by assumption, by assumption, by assumption, by assumption, by assumption, by assumption, by assumption, by assumption, by assumption⟩) (first
              | (have hq := HO12.out
                 clear hq
                 go_simp
                 go_at_call 126
                 with_reducible refine (HCT.out).mono ?_
                 rintro e w13x ⟨rfl, hs13, hc13⟩
                 have HS13 := Lib.hid hs13
                 have HC13 : Hid (Ch p.F w5 w13x) := Lib.hid ((ch_below HB12x.out).trans hc13)
                 have hz13 := hs13.box
                 have hy13 := blk_ch HX65.out HC13.out (noc_blk HS5.out.noc HX65.out)
                 have x0 := blk_cell hz13 0 rfl
                 have x1 := blk_cell hz13 1 rfl
                 have x2 := blk_cell hz13 2 rfl
                 have x3 := blk_cell hz13 3 rfl
                 have x4 := blk_cell hz13 4 rfl
                 have x5 := blk_cell hz13 5 rfl
                 have z0 := blk_cell hy13 0 rfl
                 have z1 := blk_cell hy13 1 rfl
                 have z2 := blk_cell hy13 2 rfl
                 clear hs13 hc13 hz13 hy13)
              | (have hq := HO11.out
                 clear hq
                 go_simp
                 go_at_call 127
                 with_reducible refine (HSTA.out _ HRF11.out).mono ?_
                 rintro e w12x ⟨A12, n12, c12, F12, rfl, ho12, hf12, hb12x⟩
                 have HO12 := Lib.hid ho12
                 have HB12x : Hid (Below w5.heap.size w5 w12x) := Lib.hid (HB11x.out.trans (hb12x.mono HB11x.out.size))
                 have HCT : Hid (Calls Tryz.prog 126 #[.pointer (some ⟨p.gc, 0, none⟩), .slice A12 n12 c12] w12x (AddR w12x p (addF (nxF p.s ⟨ra, 1, rc⟩ y (winF ⟨ra, 1, rc⟩ y Sk)) (winF ⟨ra, 1, rc⟩ y Sk)) (B + 7 * k + 1 + 6))) := Lib.hid (by
                   have hl := HL11.out
                   have h12 := HO12.out.rdl
                   have e12 : stated (List.replicate n11 rc) (nextsOf p.s ⟨ra, 1, rc⟩ y (winF ⟨ra, 1, rc⟩ y Sk).l (winF ⟨ra, 1, rc⟩ y Sk).r) = nxF p.s ⟨ra, 1, rc⟩ y (winF ⟨ra, 1, rc⟩ y Sk) := stated_repF rc n11 _ hl
                   rw [e12] at h12
                   exact add_c (rs := rs) (HS5.out.below HB12x.out) HSS.out.2 HN4.out.2 (by have := HB6.out; omega) A12 n12 c12 _ h12 (by have h1 := h12.len; unfold nxF at h1; simp only [List.length_map] at h1; have := HNL.out; omega) (fun x hx => by
                     obtain ⟨z, hz, rfl⟩ := List.mem_map.1 hx
                     exact ⟨rc, z, rfl, HNG.out z hz⟩))
                 clear ho12 hf12 hb12x)
              | (go_simp
                 go_at_call 128
                 with_reducible refine (HFW.out _ (by first | exact HRF5.out | exact HRD5.out)).mono ?_
                 rintro e w11x ⟨A11, n11, c11, F11, rfl, ho11, hf11, hb11x⟩
                 (try replace hb11x := und1 hb11x)
                 have HO11 := Lib.hid ho11
                 have HL11 := Lib.hid ho11.len
                 have HB11x : Hid (Below w5.heap.size w5 w11x) := Lib.hid hb11x
                 have HRF11 : Hid (Below w11x.heap.size w11x w11x) := Lib.hid (Below.refl _ _)
                 have HSTA : Hid (∀ (wx : World), Below w11x.heap.size w11x wx → Calls Tryz.prog 127 #[.int .i64 rc, .slice A11 n11 c11] wx (RetP wx (stated (List.replicate n11 rc) (nextsOf p.s ⟨ra, 1, rc⟩ y (winF ⟨ra, 1, rc⟩ y Sk).l (winF ⟨ra, 1, rc⟩ y Sk).r)))) := Lib.hid (fun wx hbx => statedAll_any wx rc A11 n11 c11 _ (HO11.out.rdl.below hbx (Nat.le_refl _)) (by have h1 := HL11.out; have := HNL.out; omega) (fun xs hxs => by have h1 := (HNG.out xs hxs).2; have := HN4.out; omega))
                 clear ho11 hf11 hb11x))) | fail)
            all_goals
              as_aux_lemma =>
              have HK2 : Hid (roundF p.s rs S (S.c.take (k + 1)) = some (addF (nxF p.s ⟨ra, 1, rc⟩ y (winF ⟨ra, 1, rc⟩ y Sk)) (winF ⟨ra, 1, rc⟩ y Sk))) := Lib.hid (by
                rw [List.take_add_one, HX.out]
                exact (roundF_snoc HK.out).trans HGW.out)
              have HI2 : Hid (InvF p.s p.t rs p.N (addF (nxF p.s ⟨ra, 1, rc⟩ y (winF ⟨ra, 1, rc⟩ y Sk)) (winF ⟨ra, 1, rc⟩ y Sk))) := Lib.hid (growR_inv HIK.out ⟨st, y, rfl, HZ.out, HYL.out⟩ HGW.out)
              have HS14 : Hid (SetsIn w13x p (addF (nxF p.s ⟨ra, 1, rc⟩ y (winF ⟨ra, 1, rc⟩ y Sk)) (winF ⟨ra, 1, rc⟩ y Sk)) (B + 7 * (k + 1))) := Lib.hid (by rw [show B + 7 * (k + 1) = B + 7 * k + 1 + 6 by omega]; exact HS13.out)
              have HC14 : Hid (Ch p.F w1 w13x) := Lib.hid (HCH2.out.trans (HC25.out.trans HC13.out))
              go_wp2_with fail
              go_roundw
              case rel => exact ⟨k + 1, _, HLTK.out, (by rw [wrap_kf HLTK.out HM3.out]), HK2, HI2, by first | exact HS14.out | exact HS14.out.drw, by first | exact HC14.out | exact ch_drew HC14.out⟩
              case measure => exact meas_kf HLTK.out HM3.out
          · as_aux_lemma =>
            have HMV : Hid ((-1 : Int) = 1 ∨ (-1 : Int) = -1) := Lib.hid (by decide)
            have HISR : Hid (isR ⟨ra, -1, rc⟩ = true) := Lib.hid HBO.out.symm
            have HB6 : Hid (B + 7 * k ≤ 999000) := Lib.hid (by have := HB9.out; have := HLTK.out; have := HM3.out; omega)
            have HLL : Hid (letB p.s p.N (lostOf ⟨ra, -1, rc⟩ y)) := Lib.hid (lost_let HZ.out HYL.out _)
            have HRW : Hid (Rd w2 A7 n7 (ints (lostOf ⟨ra, -1, rc⟩ y))) := Lib.hid (own_rd HO7.out)
            have HN7 : Hid (n7 ≤ 1000000000) := Lib.hid (by have h1 := HRW.out.1; have h2 := HLL.out.1; have := HN4.out; simp only [List.length_map] at h1; omega)
            have HIW : Hid (InvF p.s p.t rs p.N (winF ⟨ra, -1, rc⟩ y Sk)) := Lib.hid (winF_inv HIK.out HZ.out HYL.out _)
            have HWE : Hid (∀ (wx : World) (B : Nat) (e : Ending) (w' : World), AddR wx p ⟨Sk.l, putL Sk.r (lostOf ⟨ra, -1, rc⟩ y), Sk.c⟩ B e w' → AddR wx p (winF ⟨ra, -1, rc⟩ y Sk) B e w') := Lib.hid (fun wx B e w' h => h)
            have HAD : Hid (Calls Tryz.prog 126 #[.pointer (some ⟨p.gr, 0, none⟩), .slice (some ⟨w2.heap.size, 0, none⟩) 1 1] (w2.alloc (.cells #[.slice A7 n7 c7] 25)) (AddR (w2.alloc (.cells #[.slice A7 n7 c7] 25)) p (winF ⟨ra, -1, rc⟩ y Sk) (B + 7 * k + 1))) := Lib.hid (
              (add_r (HSK2.out.below (below_new w2 _)) HSS.out.2 HN4.out.2 (by have := HB6.out; omega) _ 1 1 (lostOf ⟨ra, -1, rc⟩ y) (rdl1 HRW.out HN7.out) HLL.out).mono (fun e w' h => HWE.out _ _ _ _ h))
            have e1 : (((-1 : Int)) == 1) = false := by decide
            have e2 : (((-1 : Int)) == -1) = true := by decide
            go_upto_region 11 with (go_at_call 126
                                    with_reducible refine (HAD.out).mono ?_
                                    rintro e w5 ⟨rfl, hs5, hc5⟩)
            as_aux_lemma =>
            have HS5 := Lib.hid hs5
            have HC25 : Hid (Ch p.F w2 w5) := Lib.hid ((ch_alloc _ w2 _).trans hc5)
            have HNC2 := Lib.hid HSK2.out.noc
            have HX65 : Hid (w5.heap[g6]? = some (.cells #[.int .i64 ra, .int .i64 (-1), .int .i64 rc] 97 (0, 0))) := Lib.hid (blk_ch HX6.out HC25.out (noc_blk HNC2.out HX6.out))
            have HRT5 := Lib.hid (rd_noc HRT2.out HNC2.out HC25.out)
            have HFW : Hid (∀ (wx : World), Below w5.heap.size w5 wx → Calls Tryz.prog 128 #[mchV p.s p.t p.A p.n p.c, rulV ⟨ra, -1, rc⟩, .slice AT n6 c6, .pointer (some ⟨p.gl, 0, none⟩), .pointer (some ⟨p.gr, 0, none⟩)] wx (RetP wx (nextsOf p.s ⟨ra, -1, rc⟩ y (winF ⟨ra, -1, rc⟩ y Sk).l (winF ⟨ra, -1, rc⟩ y Sk).r))) := Lib.hid (fun wx hbx => foll_any wx p (winF ⟨ra, -1, rc⟩ y Sk) _ (HS5.out.below hbx) HIW.out HSS.out.2 HN4.out ra (-1) rc (by decide) AT n6 c6 y (HRT5.out.below hbx (Nat.le_refl _)) HCP2.out HN6.out (fctx_sm HZ.out))
            have HNL : Hid ((nextsOf p.s ⟨ra, -1, rc⟩ y (winF ⟨ra, -1, rc⟩ y Sk).l (winF ⟨ra, -1, rc⟩ y Sk).r).length ≤ 6) := Lib.hid (Nat.le_trans (nexts_len _ _ _ _ _) HSS.out.2)
            have HNG : Hid (∀ z ∈ nextsOf p.s ⟨ra, -1, rc⟩ y (winF ⟨ra, -1, rc⟩ y Sk).l (winF ⟨ra, -1, rc⟩ y Sk).r, ctxC p.s p.t rs rc z = 0 ∧ z.length = 2 * p.N + 1) := Lib.hid (fun z hz => by
              have h := next_row (ls := (winF ⟨ra, -1, rc⟩ y Sk).l) (ws := (winF ⟨ra, -1, rc⟩ y Sk).r) HZ.out (by rw [← HRX.out]; exact HISR.out) HYL.out (z := z) (by rw [← HRX.out]; exact hz)
              rw [← HRX.out] at h
              exact h)
            have HGW : Hid (growR p.s rs Sk (st :: y) = some (addF (nxF p.s ⟨ra, -1, rc⟩ y (winF ⟨ra, -1, rc⟩ y Sk)) (winF ⟨ra, -1, rc⟩ y Sk))) := Lib.hid (growR_yes HRX.out HISR.out)
            have HSX5 : Hid (∀ wx : World, Below w5.heap.size w5 wx → wx.cell? ⟨p.gx, 0, none⟩ = some (.int .i64 p.s) ∧ wx.cell? ⟨p.gx, 1, none⟩ = some (.int .i64 p.t) ∧ wx.cell? ⟨p.gx, 2, none⟩ = some (.slice p.A p.n p.c) ∧ wx.cell? ⟨p.gx, 3, none⟩ = some (.pointer (some ⟨p.gl, 0, none⟩)) ∧ wx.cell? ⟨p.gx, 4, none⟩ = some (.pointer (some ⟨p.gr, 0, none⟩)) ∧ wx.cell? ⟨p.gx, 5, none⟩ = some (.pointer (some ⟨p.gc, 0, none⟩)) ∧ wx.cell? ⟨g6, 0, none⟩ = some (.int .i64 ra) ∧ wx.cell? ⟨g6, 1, none⟩ = some (.int .i64 (-1)) ∧ wx.cell? ⟨g6, 2, none⟩ = some (.int .i64 rc)) := Lib.hid (fun wx hbx => by
              have hz := (HS5.out.below hbx).box
              have hy := blk_bel HX65.out hbx
              exact ⟨blk_cell hz 0 rfl, blk_cell hz 1 rfl, blk_cell hz 2 rfl, blk_cell hz 3 rfl, blk_cell hz 4 rfl, blk_cell hz 5 rfl, blk_cell hy 0 rfl, blk_cell hy 1 rfl, blk_cell hy 2 rfl⟩)
            have HRF5 : Hid (Below w5.heap.size w5 w5) := Lib.hid (Below.refl _ _)
            have HRD5 : Hid (Below w5.heap.size w5 w5.drew) := Lib.hid (below_drewN (n := 1) (Below.refl _ _))
            clear x0 x1 x2 x3 x4 x5 z0 z1 z2 hs5 hc5 e1 e2
            obtain ⟨x0, x1, x2, x3, x4, x5, z0, z1, z2⟩ := HSX5.out _ HRF5.out
            as_aux_lemma =>
            (first | (go_region_held3 (fun w' => w'.cell? ⟨p.gx, 0, none⟩ = some (.int .i64 p.s) ∧ w'.cell? ⟨p.gx, 1, none⟩ = some (.int .i64 p.t) ∧ w'.cell? ⟨p.gx, 2, none⟩ = some (.slice p.A p.n p.c) ∧ w'.cell? ⟨p.gx, 3, none⟩ = some (.pointer (some ⟨p.gl, 0, none⟩)) ∧ w'.cell? ⟨p.gx, 4, none⟩ = some (.pointer (some ⟨p.gr, 0, none⟩)) ∧ w'.cell? ⟨p.gx, 5, none⟩ = some (.pointer (some ⟨p.gc, 0, none⟩)) ∧ w'.cell? ⟨g6, 0, none⟩ = some (.int .i64 ra) ∧ w'.cell? ⟨g6, 1, none⟩ = some (.int .i64 (-1)) ∧ w'.cell? ⟨g6, 2, none⟩ = some (.int .i64 rc)) (first | exact HSX5.out _ HRF5.out | exact HSX5.out _ HRD5.out | exact HSX5.out _ HB11x.out | exact HSX5.out _ HB12x.out | exact HSX5.out _ (below_drew1 HB11x.out) | exact HSX5.out _ (below_drew1 HB12x.out) | exact HSX7.out | exact ⟨by assumption, by assumption, by assumption, by assumption, by assumption, by assumption, by assumption, by assumption, by assumption⟩) (first
              | (have hq := HO12.out
                 clear hq
                 go_simp
                 go_at_call 126
                 with_reducible refine (HCT.out).mono ?_
                 rintro e w13x ⟨rfl, hs13, hc13⟩
                 have HS13 := Lib.hid hs13
                 have HC13 : Hid (Ch p.F w5 w13x) := Lib.hid ((ch_below HB12x.out).trans hc13)
                 have hz13 := hs13.box
                 have hy13 := blk_ch HX65.out HC13.out (noc_blk HS5.out.noc HX65.out)
                 have x0 := blk_cell hz13 0 rfl
                 have x1 := blk_cell hz13 1 rfl
                 have x2 := blk_cell hz13 2 rfl
                 have x3 := blk_cell hz13 3 rfl
                 have x4 := blk_cell hz13 4 rfl
                 have x5 := blk_cell hz13 5 rfl
                 have z0 := blk_cell hy13 0 rfl
                 have z1 := blk_cell hy13 1 rfl
                 have z2 := blk_cell hy13 2 rfl
                 clear hs13 hc13 hz13 hy13)
              | (have hq := HO11.out
                 clear hq
                 go_simp
                 go_at_call 127
                 with_reducible refine (HSTA.out _ HRF11.out).mono ?_
                 rintro e w12x ⟨A12, n12, c12, F12, rfl, ho12, hf12, hb12x⟩
                 have HO12 := Lib.hid ho12
                 have HB12x : Hid (Below w5.heap.size w5 w12x) := Lib.hid (HB11x.out.trans (hb12x.mono HB11x.out.size))
                 have HCT : Hid (Calls Tryz.prog 126 #[.pointer (some ⟨p.gc, 0, none⟩), .slice A12 n12 c12] w12x (AddR w12x p (addF (nxF p.s ⟨ra, -1, rc⟩ y (winF ⟨ra, -1, rc⟩ y Sk)) (winF ⟨ra, -1, rc⟩ y Sk)) (B + 7 * k + 1 + 6))) := Lib.hid (by
                   have hl := HL11.out
                   have h12 := HO12.out.rdl
                   have e12 : stated (List.replicate n11 rc) (nextsOf p.s ⟨ra, -1, rc⟩ y (winF ⟨ra, -1, rc⟩ y Sk).l (winF ⟨ra, -1, rc⟩ y Sk).r) = nxF p.s ⟨ra, -1, rc⟩ y (winF ⟨ra, -1, rc⟩ y Sk) := stated_repF rc n11 _ hl
                   rw [e12] at h12
                   exact add_c (rs := rs) (HS5.out.below HB12x.out) HSS.out.2 HN4.out.2 (by have := HB6.out; omega) A12 n12 c12 _ h12 (by have h1 := h12.len; unfold nxF at h1; simp only [List.length_map] at h1; have := HNL.out; omega) (fun x hx => by
                     obtain ⟨z, hz, rfl⟩ := List.mem_map.1 hx
                     exact ⟨rc, z, rfl, HNG.out z hz⟩))
                 clear ho12 hf12 hb12x)
              | (go_simp
                 go_at_call 128
                 with_reducible refine (HFW.out _ (by first | exact HRF5.out | exact HRD5.out)).mono ?_
                 rintro e w11x ⟨A11, n11, c11, F11, rfl, ho11, hf11, hb11x⟩
                 (try replace hb11x := und1 hb11x)
                 have HO11 := Lib.hid ho11
                 have HL11 := Lib.hid ho11.len
                 have HB11x : Hid (Below w5.heap.size w5 w11x) := Lib.hid hb11x
                 have HRF11 : Hid (Below w11x.heap.size w11x w11x) := Lib.hid (Below.refl _ _)
                 have HSTA : Hid (∀ (wx : World), Below w11x.heap.size w11x wx → Calls Tryz.prog 127 #[.int .i64 rc, .slice A11 n11 c11] wx (RetP wx (stated (List.replicate n11 rc) (nextsOf p.s ⟨ra, -1, rc⟩ y (winF ⟨ra, -1, rc⟩ y Sk).l (winF ⟨ra, -1, rc⟩ y Sk).r)))) := Lib.hid (fun wx hbx => statedAll_any wx rc A11 n11 c11 _ (HO11.out.rdl.below hbx (Nat.le_refl _)) (by have h1 := HL11.out; have := HNL.out; omega) (fun xs hxs => by have h1 := (HNG.out xs hxs).2; have := HN4.out; omega))
                 clear ho11 hf11 hb11x))) | fail)
            all_goals
              as_aux_lemma =>
              have HK2 : Hid (roundF p.s rs S (S.c.take (k + 1)) = some (addF (nxF p.s ⟨ra, -1, rc⟩ y (winF ⟨ra, -1, rc⟩ y Sk)) (winF ⟨ra, -1, rc⟩ y Sk))) := Lib.hid (by
                rw [List.take_add_one, HX.out]
                exact (roundF_snoc HK.out).trans HGW.out)
              have HI2 : Hid (InvF p.s p.t rs p.N (addF (nxF p.s ⟨ra, -1, rc⟩ y (winF ⟨ra, -1, rc⟩ y Sk)) (winF ⟨ra, -1, rc⟩ y Sk))) := Lib.hid (growR_inv HIK.out ⟨st, y, rfl, HZ.out, HYL.out⟩ HGW.out)
              have HS14 : Hid (SetsIn w13x p (addF (nxF p.s ⟨ra, -1, rc⟩ y (winF ⟨ra, -1, rc⟩ y Sk)) (winF ⟨ra, -1, rc⟩ y Sk)) (B + 7 * (k + 1))) := Lib.hid (by rw [show B + 7 * (k + 1) = B + 7 * k + 1 + 6 by omega]; exact HS13.out)
              have HC14 : Hid (Ch p.F w1 w13x) := Lib.hid (HCH2.out.trans (HC25.out.trans HC13.out))
              go_wp2_with fail
              go_roundw
              case rel => exact ⟨k + 1, _, HLTK.out, (by rw [wrap_kf HLTK.out HM3.out]), HK2, HI2, by first | exact HS14.out | exact HS14.out.drw, by first | exact HC14.out | exact ch_drew HC14.out⟩
              case measure => exact meas_kf HLTK.out HM3.out
    · obtain rfl : k = m := by omega
      have HO : Hid (roundF p.s rs S S.c = some Sk) := Lib.hid (by
        have h := HK.out
        rwa [List.take_of_length_le (by rw [HCL.out]; exact Nat.le_refl _)] at h)
      have HFIN : Hid (SetsIn wr p Sk (B + 7 * S.c.length)) := Lib.hid (by rw [HCL.out]; exact HSK.out)
      clear hsk hch
      go_wp2_with fail
      go_ret
      exact Or.inr ⟨Sk, HO.out, rfl, HFIN.out, HCW.out⟩
end Go.Proofs.YtanicbbgneobpaaGreat
