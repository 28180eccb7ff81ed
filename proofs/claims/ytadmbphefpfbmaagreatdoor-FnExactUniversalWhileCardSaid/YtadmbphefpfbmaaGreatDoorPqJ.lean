/- Texts of programs (program): blocks, whileText, WhileText. -/
import Derived.Test.YtadmbphefpfbmaaGreatDoorPqH
import Derived.Test.YtadmbphefpfbmaaGreatDoorJn
namespace Go.Proofs.YtadmbphefpfbmaaGreatDoor
open Go.RowKit
set_option linter.unusedVariables false
set_option linter.unusedSimpArgs false
attribute [local go_sem ↓] Go.wp_at_zero Go.wp_at_succ

def WtCon (p : Pg) : Prop := ∀ (w : World) (A : Option Addr) (c : Nat), RdC w A p.sz p.cmds → p.sz ≤ c → Calls Tryz.prog 141 #[.slice A p.sz c] w (RetV w (.string (joinP p.parts)))
theorem Pg.parts_len : ∀ p : Pg, p.parts.length ≤ p.sz
  | .nil => Nat.le_refl _
  | .set d x r => by simp [Pg.parts, Pg.sz, r.parts_len]
  | .loop x b r => by have := r.parts_len; simp [Pg.parts, Pg.sz]; omega
theorem drop_head {p : List Cmd} {k : Nat} {x : Cmd} {r : List Cmd} (h : p.drop k = x :: r) : p[k]? = some x ∧ p.drop (k + 1) = r := by
  refine ⟨?_, ?_⟩
  · have h1 : (p.drop k)[0]? = some x := by rw [h]; rfl
    rwa [List.getElem?_drop, Nat.add_zero] at h1
  · rw [← List.drop_drop, h]; rfl
set_option maxHeartbeats 8000000 in
set_option maxRecDepth 100000 in
theorem blocksY_any (p : Pg) (hok : p.ok) (hsz : p.sz ≤ 1000) (htx : p.tl.length ≤ 100000) (ih : ∀ b : Pg, b.sz < p.sz → b.ok → b.tl.length ≤ 100000 → WtCon b) (w0 w : World) (hb0 : Below w0.heap.size w0 w) (A : Option Addr) (c : Nat) (hr : RdC w0 A p.sz p.cmds) (hc : p.sz ≤ c) (B : Nat) (hls : LsB w w0.heap.size B 0 []) :
    Calls Tryz.prog 164 #[.slice A p.sz c, .func (.func 177) #[] #[.pointer (some ⟨B, 0, none⟩)]] w (fun e w' => e = .returned (.tuple #[]) ∧ LsB w' w0.heap.size B p.parts.length (strB p.parts) ∧ Below w0.heap.size w0 w') := by
  have HLS := Lib.hid hls; have HB0 := Lib.hid hb0; have HR := Lib.hid hr; have HIH := Lib.hid ih; have HOK := Lib.hid hok; have HTX := Lib.hid htx
  obtain ⟨n, hn⟩ : ∃ n, n = p.sz := ⟨_, rfl⟩
  have HN := Lib.hid hn
  have hn1 : n ≤ 1000 := by omega
  have hnc : n ≤ c := by omega
  rw [← hn] at HR ⊢
  clear hls hb0 hr ih hok htx hsz hc hn
  go_enter Tryz.func164, Tryz.ntmps164
  go_wp2_with fail
  go_loopw [4] (fun q wr => ∃ (k : Nat) (r : Pg) (ts : List ByteArray), q = .int .i64 (k : Int) ∧ k + r.sz = n ∧ Hid (p.cmds.drop k = r.cmds) ∧ Hid (p.parts = ts ++ r.parts) ∧ Hid r.ok ∧ Hid (r.tl.length ≤ 100000) ∧ Hid (ts.length ≤ k) ∧ Hid (LsB wr w0.heap.size B ts.length (strB ts)) ∧ Hid (Below w0.heap.size w0 wr)) (fun q _ => n - (intOf q).toNat)
  case atStart => exact ⟨0, p, [], rfl, by rw [HN.out]; omega, Lib.hid rfl, Lib.hid rfl, HOK, HTX, Lib.hid (Nat.le_refl _), HLS, HB0⟩
  case round =>
    clear HLS HB0 HTX HOK
    obtain ⟨k, r, ts, rfl, hk, HD, HP, HROK, HRT, HTK, HL, HB⟩ := hrel
    cases r with
    | nil =>
      obtain rfl : k = n := by simpa [Pg.sz] using hk
      go_wp2_with fail
      go_end0
      have h1 := HP.out
      simp only [Pg.parts, List.append_nil] at h1
      rw [h1]
      exact ⟨rfl, HL.out, HB.out⟩
    | set d x r =>
      have hlt : k < n := by simp only [Pg.sz] at hk; omega
      have hlt' : (k : Int) < (n : Int) := by omega
      obtain ⟨hd5, hxo, hxl, hro⟩ := HROK.out
      obtain ⟨hx, hdr⟩ := drop_head HD.out
      obtain ⟨b, off, A', n', c', hA, hbs, q0, q1, q2, q3, hn', hc', hre⟩ := HR.out.at_ hx
      subst hA
      replace q0 := (HB.out.cell (p := ⟨b, off + k * 4, none⟩) hbs).trans q0
      replace q1 := (HB.out.cell (p := ⟨b, off + k * 4 + 1, none⟩) hbs).trans q1
      replace q2 := (HB.out.cell (p := ⟨b, off + k * 4 + 2, none⟩) hbs).trans q2
      replace q3 := (HB.out.cell (p := ⟨b, off + k * 4 + 3, none⟩) hbs).trans q3
      replace hre := hre.below HB.out (Nat.le_refl _)
      have HCLO := Lib.hid (fun (Ab : Value) => textCloY_set wr w0.heap.size B ts.length (strB ts) d hd5 x hxo A' n' c' Ab HL.out (by have := HTK.out; omega) hre (by have := rdE_len hre; simp only at this; omega) hc' HB.out.size)
      have HDR := Lib.hid hdr; have HRO := Lib.hid hro
      have HRT2 : Hid (r.tl.length ≤ 100000) := Lib.hid (by have h1 := HRT.out; simp only [Pg.tl, List.length_cons, List.length_append] at h1; omega)
      have HP2 : Hid (p.parts = (ts ++ [setB d x]) ++ r.parts) := Lib.hid (by rw [HP.out]; simp [Pg.parts])
      simp only [Pg.sz] at hk
      simp only at q0 q1 q2 q3
      clear hd5 hxo hxl hro hx hdr hre hn' hc'
      have g0 : (0 : Int) ≤ (k : Int) + 1 := by omega
      have g2 : (k : Int) + 1 ≤ (c : Int) := by omega
      by_cases hck : c = k + 1
      · subst hck
        go_wp2_with (go_at_call 177
                     refine (HCLO.out _).mono ?_
                     rintro e w2 ⟨rfl, hl2, hb2⟩
                     have HL2 := Lib.hid hl2
                     have HB2 := Lib.hid (HB.out.trans hb2)
                     clear hl2 hb2)
        go_roundw
        case rel => exact ⟨k + 1, r, ts ++ [setB d x], by go_num, by omega, HDR, HP2, HRO, HRT2, Lib.hid (by have := HTK.out; simp; omega), Lib.hid (by have h1 := HL2.out; simpa using h1), HB2⟩
        case measure => simp [intOf]; omega
      · have g3 : k + 1 < c := by omega
        go_wp2_with (go_at_call 177
                     refine (HCLO.out _).mono ?_
                     rintro e w2 ⟨rfl, hl2, hb2⟩
                     have HL2 := Lib.hid hl2
                     have HB2 := Lib.hid (HB.out.trans hb2)
                     clear hl2 hb2)
        go_roundw
        case rel => exact ⟨k + 1, r, ts ++ [setB d x], by go_num, by omega, HDR, HP2, HRO, HRT2, Lib.hid (by have := HTK.out; simp; omega), Lib.hid (by have h1 := HL2.out; simpa using h1), HB2⟩
        case measure => simp [intOf]; omega
    | loop x bd r =>
      have hlt : k < n := by simp only [Pg.sz] at hk; omega
      have hlt' : (k : Int) < (n : Int) := by omega
      obtain ⟨hxo, hxl, hbo, hro⟩ := HROK.out
      obtain ⟨hx, hdr⟩ := drop_head HD.out
      obtain ⟨b, off, A', n', c', hA, hbs, q0, q1, q2, q3, hn', hc', hre⟩ := HR.out.at_ hx
      subst hA
      replace q0 := (HB.out.cell (p := ⟨b, off + k * 4, none⟩) hbs).trans q0
      replace q1 := (HB.out.cell (p := ⟨b, off + k * 4 + 1, none⟩) hbs).trans q1
      replace q2 := (HB.out.cell (p := ⟨b, off + k * 4 + 2, none⟩) hbs).trans q2
      replace q3 := (HB.out.cell (p := ⟨b, off + k * 4 + 3, none⟩) hbs).trans q3
      replace hre := hre.below HB.out (Nat.le_refl _)
      obtain ⟨l, hl⟩ : ∃ l, l = bd.sz := ⟨_, rfl⟩
      have hbl : bd.cmds.length = l := by rw [bd.cmds_len, hl]
      have hk2 : k + (l + r.sz + 1) = n := by rw [hl]; simpa only [Pg.sz] using hk
      have hln : k + 1 + l ≤ n := by omega
      have HCT : Hid (RdC w0 (some ⟨b, off + (k + 1) * 4, none⟩) l bd.cmds) := Lib.hid (by
        have h := HR.out.cut (i := k + 1) (j := k + 1 + l) (by omega) (by omega)
        rw [Nat.add_sub_cancel_left, hdr, ← hbl, List.take_left' rfl] at h
        rw [hbl] at h
        exact h)
      have hbt : bd.tl.length ≤ 100000 := by have h1 := HRT.out; simp only [Pg.tl, List.length_cons, List.length_append, List.length_drop] at h1; omega
      have HW : Hid (WtCon bd) := Lib.hid (HIH.out bd (by rw [← HN.out]; omega) hbo hbt)
      have HTS : Hid ((joinP bd.parts).size ≤ 100000) := Lib.hid (by rw [join_size hbo, Pg.tx, List.length_drop]; omega)
      have HDR : Hid (p.cmds.drop (k + 1 + l) = r.cmds) := Lib.hid (by rw [← List.drop_drop, hdr, ← hbl, List.drop_left' rfl])
      have HRO := Lib.hid hro
      have HRT2 : Hid (r.tl.length ≤ 100000) := Lib.hid (by have h1 := HRT.out; simp only [Pg.tl, List.length_cons, List.length_append] at h1; omega)
      have HP2 : Hid (p.parts = (ts ++ [loopB x (joinP bd.parts)]) ++ r.parts) := Lib.hid (by rw [HP.out]; simp [Pg.parts])
      have HRE := Lib.hid hre; have HXO := Lib.hid hxo
      have HNM : Hid (n' ≤ 1000 ∧ n' ≤ c') := Lib.hid ⟨by have := rdE_len hre; simp only at this; omega, hc'⟩
      have HLB := Lib.hid hl
      simp only at q0 q1 q2 q3
      rw [hbl] at q2
      clear hxo hxl hbo hro hx hdr hre hn' hc' hk hbt hbl hl
      unfold WtCon at HW
      generalize hJ : joinP bd.parts = T at *
      clear hJ
      have g1 : (k : Int) + 1 ≤ (k : Int) + 1 + (l : Int) := by omega
      have g2 : (k : Int) + 1 + (l : Int) ≤ (c : Int) := by omega
      have g0 : (0 : Int) ≤ (k : Int) + 1 := by omega
      by_cases hck : c = k + 1
      · have hl0 : l = 0 := by omega
        subst hl0 hck
        have HCLO := Lib.hid (fun (Ab : Option Addr) (cb : Nat) => textCloY_loop wr w0.heap.size B ts.length (strB ts) ((0 : Nat) : Int) x HXO.out A' n' c' Ab 0 cb T HTS.out HL.out (by have := HTK.out; omega) HRE.out HNM.out.1 HNM.out.2 HB.out.size (fun w2 _ => by
          have h1 := HW.out w2 Ab cb
          rw [← HLB.out] at h1
          have h2 : bd.cmds = [] := List.eq_nil_of_length_eq_zero (by rw [bd.cmds_len, ← HLB.out])
          exact h1 (by rw [h2]; exact RdC.nil _ _) (Nat.zero_le _)))
        simp only [Nat.add_zero] at HDR
        go_wp2_with (go_at_call 177
                     refine (HCLO.out _ _).mono ?_
                     rintro e w2 ⟨rfl, hl2, hb2⟩
                     have HL2 := Lib.hid hl2
                     have HB2 := Lib.hid (HB.out.trans hb2)
                     clear hl2 hb2)
        go_roundw
        case rel => exact ⟨k + 1, r, ts ++ [loopB x T], by go_num, by omega, HDR, HP2, HRO, HRT2, Lib.hid (by have := HTK.out; simp; omega), Lib.hid (by have h1 := HL2.out; simpa using h1), HB2⟩
        case measure => simp [intOf]; omega
      · have g3 : k + 1 < c := by omega
        have HCLO := Lib.hid (textCloY_loop wr w0.heap.size B ts.length (strB ts) (l : Int) x HXO.out A' n' c' (some ⟨b, off + (k + 1) * 4, none⟩) l (c - (k + 1)) T HTS.out HL.out (by have := HTK.out; omega) HRE.out HNM.out.1 HNM.out.2 HB.out.size (fun w2 hb2 => by
          have h1 := HW.out w2 (some ⟨b, off + (k + 1) * 4, none⟩) (c - (k + 1))
          rw [← HLB.out] at h1
          exact h1 ((HCT.out.below HB.out (Nat.le_refl _)).below hb2 (Nat.le_refl _)) (by omega)))
        go_wp2_with (go_at_call 177
                     refine HCLO.out.mono ?_
                     rintro e w2 ⟨rfl, hl2, hb2⟩
                     have HL2 := Lib.hid hl2
                     have HB2 := Lib.hid (HB.out.trans hb2)
                     clear hl2 hb2)
        go_roundw
        case rel => exact ⟨k + 1 + l, r, ts ++ [loopB x T], by go_num, by omega, HDR, HP2, HRO, HRT2, Lib.hid (by have := HTK.out; simp; omega), Lib.hid (by have h1 := HL2.out; simpa using h1), HB2⟩
        case measure => simp [intOf]; omega
set_option maxHeartbeats 2000000 in
theorem whileTextY_step (p : Pg) (hok : p.ok) (hsz : p.sz ≤ 1000) (htx : p.tl.length ≤ 100000) (ih : ∀ b : Pg, b.sz < p.sz → b.ok → b.tl.length ≤ 100000 → WtCon b) : WtCon p := by
  intro w A c hr hc
  obtain ⟨wa, hwa⟩ : ∃ wa, wa = w.alloc (.cells #[] 9) := ⟨_, rfl⟩
  obtain ⟨w1, hw1⟩ : ∃ w1, w1 = wa.alloc (.cells #[.slice (some ⟨w.heap.size, 0, none⟩) 0 0] 47) := ⟨_, rfl⟩
  have hba : Below w.heap.size w wa := by rw [hwa]; exact below_new _ _
  have hb1 : Below w.heap.size w w1 := by rw [hw1]; exact hba.alloc hba.size _
  have sa : wa.heap.size = w.heap.size + 1 := by rw [hwa]; simp
  have hls : LsB w1 w.heap.size (w.heap.size + 1) 0 [] := by
    refine ⟨some ⟨w.heap.size, 0, none⟩, 0, ?_, ?_, by omega⟩
    · rw [hw1, ← sa]; exact box_new _ _ _
    · rw [hw1]
      have h := own_lit w #[] 0 9 rfl (by omega)
      rw [← hwa] at h
      exact own_below h (below_new _ _) (Nat.le_refl _)
  have HB := Lib.hid (blocksY_any p hok hsz htx ih w w1 hb1 A c hr hc (w.heap.size + 1) hls)
  have hW : w1 = (w.alloc (.cells #[] 9)).alloc (.cells #[.slice (some ⟨w.heap.size, 0, none⟩) 0 0] 47) := by rw [hw1, hwa]
  have HJ : Hid ((joinP p.parts).size ≤ 100000) := Lib.hid (by rw [join_size hok, Pg.tx, List.length_drop]; omega)
  have HPL : Hid (p.parts.length ≤ 1000) := Lib.hid (Nat.le_trans p.parts_len hsz)
  clear hwa hw1 hba hb1 sa hls hr hok hsz htx ih
  go_enter Tryz.func141, Tryz.ntmps141
  go_upto_region 2 with fail
  rw [← hW]
  clear hW
  go_upto_region 3 with (go_at_call 164
                         refine HB.out.mono ?_
                         rintro e w2 ⟨rfl, ⟨A2, c2, hx2, ho2, -⟩, hb2⟩
                         have HO2 := Lib.hid (own_rd ho2)
                         have HCP := Lib.hid (ownN_cap ho2)
                         have HB2 := Lib.hid hb2
                         have x0 := blk_cell hx2 0 rfl
                         clear ho2 hb2 hx2)
  go_wp2_with (go_at_call 178
               refine (joinY_any w2 A2 c2 p.parts HO2.out (by have := HPL.out; omega) HCP.out (by have := HJ.out; omega)).mono ?_
               rintro e w3 ⟨rfl, hb3⟩
               have HB3 := Lib.hid (bqcP hb3 HB2.out)
               clear hb3)
  go_ret
  exact ⟨rfl, HB3.out⟩
theorem whileTextY_any : ∀ (n : Nat) (p : Pg), p.sz ≤ n → p.sz ≤ 1000 → p.tl.length ≤ 100000 → p.ok → WtCon p
  | 0, p, h, h2, h3, hok => whileTextY_step p hok h2 h3 (fun b hb _ _ => by omega)
  | n + 1, p, h, h2, h3, hok => whileTextY_step p hok h2 h3 (fun b hb hbok h4 => whileTextY_any n b (by omega) (by omega) h4 hbok)
set_option maxHeartbeats 1000000 in
theorem WhileTextY_any (p : Pg) (hok : p.ok) (hsz : p.sz ≤ 80) (htx : p.tl.length ≤ 100000) (w : World) (A : Option Addr) (c : Nat) (hr : RdC w A p.sz p.cmds) (hc : p.sz ≤ c) :
    Calls Tryz.prog 98 #[.slice A p.sz c] w (RetV w (.string (joinP p.parts))) := by
  have H1 := ValidWhile_any w A p.sz c p.cmds hr (by omega) hc
  rw [Pg.isw hok hsz] at H1
  replace H1 := Lib.hid H1
  have H2 := Lib.hid (fun (w2 : World) (hb : Below w.heap.size w w2) => whileTextY_any p.sz p (Nat.le_refl _) (by omega) htx hok w2 A c (hr.below hb (Nat.le_refl _)) hc)
  obtain ⟨n, hn⟩ : ∃ n, n = p.sz := ⟨_, rfl⟩
  rw [← hn] at H1 H2 ⊢
  clear hr hc hok hsz htx hn
  generalize joinP p.parts = T at *
  go_enter Tryz.func98, Tryz.ntmps98
  go_wp2_with (first
    | (go_at_call 94
       refine H1.out.mono ?_
       rintro e w2 ⟨rfl, hb2⟩
       have HB2 := Lib.hid hb2
       have H22 := Lib.hid (H2.out w2 hb2)
       clear hb2)
    | (go_at_call 141
       refine H22.out.mono ?_
       rintro e w3 ⟨rfl, hb3⟩
       have HB3 := Lib.hid (bqcP hb3 HB2.out)
       clear hb3))
  go_ret
  exact ⟨rfl, HB3.out⟩
end Go.Proofs.YtadmbphefpfbmaaGreatDoor
