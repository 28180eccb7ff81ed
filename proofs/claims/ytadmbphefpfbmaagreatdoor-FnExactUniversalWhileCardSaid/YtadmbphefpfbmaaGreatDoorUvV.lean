/- The universal program: strings.Replacer: a text with its keys replaced is written to a buffer. -/
import Derived.Test.YtadmbphefpfbmaaGreatDoorUvW
import Derived.Handy
import Derived.StillTailTactics
namespace Go.Proofs.YtadmbphefpfbmaaGreatDoor
open Go.RowKit
set_option linter.unusedVariables false
set_option linter.unusedSimpArgs false
attribute [local go_sem ↓] Go.wp_at_zero Go.wp_at_succ
theorem buf_below {w w' : World} {B g : Nat} {l : List Nat} (h : BufAt w B g l) (hb : Below w.heap.size w w') : BufAt w' B g l := by
  obtain ⟨A, c, h1, h2⟩ := h
  exact ⟨A, c, blk_bel h1 hb, ownN_below h2 hb (Nat.le_refl _)⟩
theorem buf_heap {w w' : World} {B g : Nat} {l : List Nat} (h : BufAt w B g l) (hb : ∃ n, w' = w.drewN n) : BufAt w' B g l := by
  obtain ⟨n, rfl⟩ := hb
  exact h
theorem way_drew {w : World} {n r m : Nat} {nd tb ix : Nat → Nat} {t v : ByteArray} {p : Int} (h : Way w r m nd tb ix t v p) : Way (w.drewN n) r m nd tb ix t v p := ⟨h.root, h.mt, h.pr, h.tab, h.sz, h.ix4, h.byte, h.next, h.pos, h.leaf0, h.leaf1, h.leaf2, h.leaf4⟩
theorem nil_buf (w : World) (g : Nat) : (nilAhead 432 318 (ptr g) "WriteString").run Tryz.prog w = .ok (some false) w := by kernel_rfl
theorem num_w (i m : Nat) : Value.int .i64 ((i : Int) + (m : Int)) = Value.int .i64 ((i + m : Nat) : Int) := by rw [Int.natCast_add]
theorem meas_w (s i m : Nat) (h : i + m ≤ s) (h1 : 1 ≤ m) : s + 2 - (intOf (Value.int .i64 ((i : Int) + (m : Int)))).toNat < s + 2 - (intOf (Value.int .i64 (i : Int))).toNat := by simp [intOf]; omega
theorem meas_1 (s i : Nat) (h : i = s) : s + 2 - (intOf (Value.int .i64 ((i : Int) + 1))).toNat < s + 2 - (intOf (Value.int .i64 (i : Int))).toNat := by subst h; simp [intOf]
theorem mp_nat (x : Nat) : ∃ y : Nat, mp x = (y : Int) ∧ y ≤ 4 := by
  unfold mp
  split
  · exact ⟨0, rfl, by omega⟩
  · split
    · exact ⟨1, rfl, by omega⟩
    · split
      · exact ⟨2, rfl, by omega⟩
      · split
        · exact ⟨3, rfl, by omega⟩
        · exact ⟨4, rfl, by omega⟩
theorem mp_three {x : Nat} (h : mp x = 3) : x = 84 := by
  unfold mp at h
  split at h
  · omega
  · split at h
    · omega
    · split at h
      · omega
      · split at h
        · assumption
        · omega
set_option maxRecDepth 100000 in
set_option maxHeartbeats 16000000 in
theorem genWrite_any (B0 : Nat) (v8 v10 v11 : ByteArray) (w : World) (r g B : Nat) (s : ByteArray) (o : List Nat) (hT : TrS B0 v8 v10 v11 w r 3) (hrp : Rp (nm v8) (nm v10) (nm v11) (nm s) o) (hs : s.size ≤ 100000) (ho : o.length ≤ 500000) (hb : BufAt w B g []) (hB : B ≤ w.heap.size) (hg : B ≤ g) (hTB : ∀ w', Below B w w' → TrS B0 v8 v10 v11 w' r 3) :
    Calls Tryz.prog 282 #[ptr r, bufV g, .string s] w fun e w' => ∃ nn : Int, e = .returned (.tuple #[.int .i64 nn, .nilIface]) ∧ BufAt w' B g o ∧ Below B w w' := by
  have HTB := Lib.hid hTB
  have HSO : Hid (s.size ≤ 100000 ∧ o.length ≤ 500000 ∧ (nm s).length = s.size) := Lib.hid ⟨hs, ho, nm_size s⟩
  have HI0 := Lib.hid (wri_0 hrp)
  have HBF := Lib.hid hb
  have HBB : Hid (B ≤ w.heap.size ∧ B ≤ g) := Lib.hid ⟨hB, hg⟩
  have hmf : ∀ (fn : Fn) (first cap : Array Value) (w : World), (Instr.makeFunc fn first cap).run Tryz.prog w = .ok (.func fn first cap) w := fun _ _ _ _ => rfl
  have hnb := fun w : World => nil_buf w g
  clear hT hrp hs ho hb hB hg hTB
  go_enter Tryz.func282, Tryz.ntmps282
  go_wp2_with (go_at_call 283; refine (getWriter_any w g).mono ?_; rintro e w1 ⟨rfl, rfl⟩)
  go_loopw [6, 7, 9, 10, 11, 12] (fun u6 u7 u9 u10 u11 u12 wr => ∃ (nn wn : Int) (last i : Nat) (l : List Nat), u6 = .int .i64 nn ∧ u7 = .nilIface ∧ u9 = .int .i64 (last : Int) ∧ u10 = .int .i64 wn ∧ u11 = .bool false ∧ u12 = .int .i64 (i : Int) ∧ i ≤ s.size + 1 ∧ Hid (WrI (nm v8) (nm v10) (nm v11) (nm s) o l last i) ∧ Hid (BufAt wr B g l) ∧ Hid (Below B w1 wr)) (fun _ _ _ _ _ v _ => s.size + 2 - (intOf v).toNat)
  case atStart => exact ⟨0, 0, 0, 0, [], rfl, rfl, rfl, rfl, rfl, rfl, by omega, HI0, HBF, Lib.hid (Below.refl _ _)⟩
  case round =>
    clear HI0 HBF
    obtain ⟨nn, wn, last, i, l, rfl, rfl, rfl, rfl, rfl, rfl, hi, HI, HB, HW⟩ := hrel
    have hs9 : s.size ≤ 100000 := HSO.out.1
    have HTR := Lib.hid (HTB.out wr HW.out)
    rcases (by omega : i < s.size ∨ i = s.size ∨ i = s.size + 1) with hlt | heq | heq
    · obtain ⟨hli, hcase⟩ := wri_at HI.out (by rw [HSO.out.2.2]; exact hlt)
      rcases hcase with ⟨x, hx84, hx, hI2⟩ | ⟨q, v, m, hkey, him, hI2⟩
      · as_aux_lemma =>
        have HI2 := Lib.hid hI2
        obtain ⟨x', hx', ex, hx6⟩ := nm_at hlt
        obtain rfl : x' = x := by rw [hx'] at hx; exact Option.some.inj hx
        obtain ⟨y, hy, hy4⟩ := mp_nat x'
        obtain ⟨T, N, M, U, K, L, V, J, hBs, hg, hTT, hn, hu, hm, hk, hv, hl, hj⟩ := HTR.out
        have x1 : wr.cell? ⟨r, 1, none⟩ = some (.int .i64 0) := blk_cell hg 1 (grC_lo rfl)
        have x4 : wr.cell? ⟨r, 4, none⟩ = some (.slice (some ⟨T, 0, none⟩) 4 4) := blk_cell hg 4 (grC_lo rfl)
        have x5 : wr.cell? ⟨r, 5, none⟩ = some (.int .i64 4) := blk_cell hg 5 (grC_lo rfl)
        have xm : wr.cell? ⟨r, 6 + x', none⟩ = some (.int .u8 (y : Int)) := blk_cell hg (6 + x') (gr_map hx6 hy)
        have exi : ((s[i]'hlt).toNat : Int) = (x' : Int) := by rw [ex]
        have hx0 : (0 : Int) ≤ (x' : Int) := by omega
        have hx2 : (x' : Int) < 256 := by omega
        have hii : (i : Int) < (s.size : Int) := by omega
        have hile : (i : Int) ≤ (s.size : Int) := by omega
        have hine : ((i : Int) != (s.size : Int)) = true := by simp; omega
        have hi0 : (0 : Int) ≤ (i : Int) := by omega
        have hwy : IntKind.i64.wrap (y : Int) = (y : Int) := IntWalk.i64_in _ (by omega)
        have HB5 := fun n : Nat => Lib.hid (buf_heap HB.out ⟨n, rfl⟩)
        have HW5 := fun n : Nat => Lib.hid (below_drewN (n := n) HW.out)
        by_cases h4 : y = 4
        · subst h4
          clear hx hx' ex hx6 hy hy4 hg hTT hn hu hm hk hv hl hj hI2 hBs
          go_wp2_with fail
          go_quiet (fail)
          go_wp2_with fail
          go_roundw
          case rel => exact ⟨nn, wn, last, i + 1, l, rfl, rfl, rfl, rfl, rfl, by go_num, by omega, HI2, HB5 nq, HW5 nq⟩
          case measure => simp [intOf]; omega
        · have hy3 : y ≠ 3 := fun e => hx84 (mp_three (by rw [hy, e]; rfl))
          have xt : wr.cell? ⟨T, y, none⟩ = some (.pointer none) := by
            rcases (by omega : y = 0 ∨ y = 1 ∨ y = 2) with rfl | rfl | rfl
            · exact blk_cell hTT 0 rfl
            · exact blk_cell hTT 1 rfl
            · exact blk_cell hTT 2 rfl
          have hy0 : (0 : Int) ≤ (y : Int) := by omega
          have hy4i : (y : Int) < 4 := by omega
          have hyn : ¬ (y : Int) = 4 := by omega
          have hyb : ((y : Int) == 4) = false := by rw [beq_eq_false_iff_ne]; exact hyn
          clear hx hx' ex hx6 hy hy4 hg hTT hn hu hm hk hv hl hj hI2 hBs
          go_wp2_with fail
          go_quiet (fail)
          go_wp2_with fail
          go_roundw
          case rel => exact ⟨nn, wn, last, i + 1, l, rfl, rfl, rfl, rfl, rfl, by go_num, by omega, HI2, HB5 nq, HW5 nq⟩
          case measure => simp [intOf]; omega
      · as_aux_lemma =>
        have HI2 := Lib.hid hI2
        obtain ⟨hm1, hm3, t, ht, hWay⟩ : 1 ≤ m ∧ m ≤ 3 ∧ ∃ t : ByteArray, t = s.extract i s.size ∧ ∃ (vb : ByteArray) (pz : Int), nm vb = v ∧ ∃ nd tb ix, Way wr r m nd tb ix t vb pz := by
          rcases hkey with ⟨e1, rfl, rfl⟩ | ⟨e1, rfl, rfl⟩ | ⟨e1, rfl, rfl⟩
          · exact ⟨by omega, by omega, _, rfl, v8, 6, rfl, way8 HTR.out (by rw [nm_drop]; exact e1)⟩
          · exact ⟨by omega, by omega, _, rfl, v10, 4, rfl, way10 HTR.out (by rw [nm_drop]; exact e1)⟩
          · exact ⟨by omega, by omega, _, rfl, v11, 2, rfl, way11 HTR.out (by rw [nm_drop]; exact e1)⟩
        obtain ⟨vb, pz, hvb, nd, tb, ix, hway⟩ := hWay
        have HWAY := Lib.hid hway
        have hx84 : (nm s)[i]? = some 84 := by
          have h1 : ((nm s).drop i)[0]? = some 84 := by rcases hkey with ⟨e1, _⟩ | ⟨e1, _⟩ | ⟨e1, _⟩ <;> (rw [e1]; rfl)
          rw [List.getElem?_drop] at h1; exact h1
        obtain ⟨x', hx', ex, hx6⟩ := nm_at hlt
        obtain rfl : x' = 84 := by rw [hx'] at hx84; exact Option.some.inj hx84
        obtain ⟨T, N, M, U, K, L, V, J, hBs, hg, hTT, hn, hu, hm, hk, hv, hl, hj⟩ := HTR.out
        have x1 : wr.cell? ⟨r, 1, none⟩ = some (.int .i64 0) := blk_cell hg 1 (grC_lo rfl)
        have x4 : wr.cell? ⟨r, 4, none⟩ = some (.slice (some ⟨T, 0, none⟩) 4 4) := blk_cell hg 4 (grC_lo rfl)
        have x5 : wr.cell? ⟨r, 5, none⟩ = some (.int .i64 4) := blk_cell hg 5 (grC_lo rfl)
        have xm : wr.cell? ⟨r, 90, none⟩ = some (.int .u8 3) := blk_cell hg 90 (gr_map (b := 84) (by omega) rfl)
        have xt : wr.cell? ⟨T, 3, none⟩ = some (.pointer (some ⟨N, 0, none⟩)) := blk_cell hTT 3 rfl
        have exi : ((s[i]'hlt).toNat : Int) = 84 := by rw [ex]; rfl
        have hii : (i : Int) < (s.size : Int) := by omega
        have hile : (i : Int) ≤ (s.size : Int) := by omega
        have hine : ((i : Int) != (s.size : Int)) = true := by simp; omega
        have hi0 : (0 : Int) ≤ (i : Int) := by omega
        have HTS : Hid (t.size ≤ 1000000) := Lib.hid (by rw [ht]; simp; omega)
        have HTT := Lib.hid ht
        have HIM : Hid (i + m ≤ s.size ∧ 1 ≤ m ∧ m ≤ 3 ∧ nm vb = v) := Lib.hid ⟨by rw [HSO.out.2.2] at him; exact him, hm1, hm3, hvb⟩
        clear hx84 hx' ex hx6 hg hTT hn hu hm hk hv hl hj hI2 hkey hBs hway him hm1 hm3 hvb ht
        go_wp2_with fail
        go_quiet (fail)
        go_upto_region 10 with fail
        clear x1 x4 x5 xm xt exi hine
        as_aux_lemma =>
        have HLK : Hid (Calls Tryz.prog 284 #[ptr r, .string (s.extract i s.size), .bool false] (wr.drewN nq) fun e w' => e = .returned (.tuple #[.string vb, .int .i64 (m : Int), .bool true]) ∧ ∃ n, w' = wr.drewN n) := Lib.hid (by rw [← HTT.out]; exact (lookup_any _ r m nd tb ix t vb pz HIM.out.2.1 (by have := HIM.out; omega) HTS.out (way_drew HWAY.out)).mono (fun e w' h => ⟨h.1, by obtain ⟨n, hn⟩ := h.2; exact ⟨nq + n, by rw [hn, dN_dN]⟩⟩))
        have hm0 : ¬ (m : Int) = 0 := by have := HIM.out; omega
        have hmb : ((m : Int) == 0) = false := by rw [beq_eq_false_iff_ne]; exact hm0
        go_upto_region 13 with (go_at_call 284; refine HLK.out.mono ?_; rintro e w3 ⟨rfl, n3, rfl⟩)
        obtain ⟨w4, hw4⟩ : ∃ w4, w4 = wr.drewN n3 := ⟨_, rfl⟩
        have HB4 : Hid (BufAt w4.drew B g l) := Lib.hid (by rw [hw4]; exact HB.out)
        have HW4 : Hid (Below B w1 w4.drew) := Lib.hid (below_drew1 (by rw [hw4]; exact below_drewN HW.out))
        rw [← hw4]
        clear hw4 HLK HWAY
        have hl1 : (last : Int) ≤ (i : Int) := by omega
        have hl0 : (0 : Int) ≤ (last : Int) := by omega
        have hls : (last : Int) ≤ (s.size : Int) := by omega
        have HLE : Hid (l.length ≤ 500000 ∧ last ≤ i ∧ i ≤ s.size ∧ B ≤ w4.heap.size) := Lib.hid ⟨by have := wri_len HI.out; have := HSO.out; omega, hli, by omega, by have := HW4.out.size; have := HBB.out; exact Nat.le_trans HBB.out.1 HW4.out.size⟩
        go_wp2_with fail
        go_region_with (go_at_call 302
                        refine (bufWrite_any w4.drew B g l (s.extract last i) HB4.out HLE.out.2.2.2 HBB.out.2 (by have := HLE.out; have := HSO.out; rw [ByteArray.size_extract]; omega)).mono ?_
                        rintro e w5 ⟨rfl, hbuf, hbel⟩
                        rw [nm_ext] at hbuf
                        have HB5 := Lib.hid hbuf
                        have HW5 := Lib.hid (HW4.out.trans hbel)
                        clear hbuf hbel)
        go_upto_region 14 with fail
        clear hl1 hl0 hls hii hile
        as_aux_lemma =>
        have hmm : m ≤ 3 := HIM.out.2.2.1
        have him : i + m ≤ s.size := HIM.out.1
        have HLL : Hid ((l ++ List.take (i - last) (List.drop last (nm s))).length + vb.size ≤ 1000000) := Lib.hid (by
          have h1 := wri_len HI2.out
          rw [← HIM.out.2.2.2, List.length_append, nm_size] at h1
          have := HSO.out
          omega)
        have HB5S : Hid (B ≤ w5.heap.size) := Lib.hid (Nat.le_trans HBB.out.1 HW5.out.size)
        go_upto_region 19 with (go_at_call 302
                                refine (bufWrite_any w5 B g _ vb HB5.out HB5S.out HBB.out.2 HLL.out).mono ?_
                                rintro e w6 ⟨rfl, hbuf, hbel⟩
                                rw [HIM.out.2.2.2] at hbuf
                                have HB6 := Lib.hid hbuf
                                have HW6 := Lib.hid (HW5.out.trans hbel)
                                clear hbuf hbel)
        as_aux_lemma =>
        clear HB HW HTR HB4 HW4 HB5 HW5 HB5S HLL hnb hmf
        have hwim : IntKind.i64.wrap ((i : Int) + (m : Int)) = ((i + m : Nat) : Int) := by rw [IntWalk.i64_in _ (by omega)]; omega
        go_wp2_with fail
        exact ⟨⟨_, _, i + m, i + m, _, rfl, rfl, num_w i m, rfl, rfl, num_w i m, Nat.le_succ_of_le him, HI2, HB6, HW6⟩, meas_w s.size i m him HIM.out.2.1⟩
    · have HI2 := Lib.hid (wri_end HI.out (by rw [HSO.out.2.2]; exact heq))
      have HEE : Hid ((s.extract i s.size).toList.isEmpty = true) := Lib.hid (nm_empty (by rw [nm_ext, heq]; simp))
      obtain ⟨T, N, M, U, K, L, V, J, hBs, hg, hTT, hn, hu, hm, hk, hv, hl, hj⟩ := HTR.out
      have x1 : wr.cell? ⟨r, 1, none⟩ = some (.int .i64 0) := blk_cell hg 1 (grC_lo rfl)
      have hine : ((i : Int) != (s.size : Int)) = false := by simp; omega
      have hile : (i : Int) ≤ (s.size : Int) := by omega
      have hi0 : (0 : Int) ≤ (i : Int) := by omega
      have HEQ := Lib.hid heq
      clear hBs hg hTT hn hu hm hk hv hl hj heq
      as_aux_lemma =>
      have HLE : Hid (Calls Tryz.prog 284 #[ptr r, .string (s.extract i s.size), .bool false] wr fun e w' => e = .returned (.tuple #[.string noB, .int .i64 0, .bool false]) ∧ w' = wr) := Lib.hid (lookupEnd_any wr r _ HEE.out x1)
      go_upto_region 10 with fail
      clear hine x1 hnb hmf
      as_aux_lemma =>
      go_upto_region 21 with (go_at_call 284; refine HLE.out.mono ?_; rintro e w3 ⟨rfl, rfl⟩)
      clear HLE HEE
      as_aux_lemma =>
      go_wp2_with fail
      exact ⟨⟨nn, wn, last, i + 1, l, rfl, rfl, rfl, rfl, rfl, num_w i 1, by have := HEQ.out; omega, by rw [HEQ.out, ← HSO.out.2.2]; exact HI2, HB, HW⟩, meas_1 s.size i HEQ.out⟩
    · obtain ⟨hle, hout⟩ := wri_out (last := last) (l := l) (by have h := HI.out; rw [heq, ← HSO.out.2.2] at h; exact h)
      rw [HSO.out.2.2] at hle
      have hin : ¬ (i : Int) ≤ (s.size : Int) := by omega
      have HOUT := Lib.hid hout
      have HLL := Lib.hid (wri_len HI.out)
      clear heq hout
      by_cases hls : last = s.size
      · as_aux_lemma =>
        have HLS := Lib.hid hls
        have hlne : ((last : Int) != (s.size : Int)) = false := by simp; omega
        clear hle hls hi
        go_wp2_with fail
        go_ret2
        have h := HB.out
        have h2 := HOUT.out
        rw [List.drop_of_length_le (by rw [HSO.out.2.2, HLS.out]; exact Nat.le_refl _), List.append_nil] at h2
        rw [h2] at h
        exact ⟨⟨nn, rfl⟩, h, HW.out⟩
      · as_aux_lemma =>
        have hlne : ((last : Int) != (s.size : Int)) = true := by simp; omega
        have hl1 : (last : Int) ≤ (s.size : Int) := by omega
        have hl0 : (0 : Int) ≤ (last : Int) := by omega
        have HBd : Hid (BufAt wr.drew B g l) := Lib.hid HB.out
        have HWd : Hid (Below B w1 wr.drew) := Lib.hid (below_drew1 HW.out)
        have HSZ : Hid (B ≤ wr.drew.heap.size ∧ l.length + (s.extract last s.size).size ≤ 1000000) := Lib.hid ⟨Nat.le_trans HBB.out.1 HWd.out.size, by have := HLL.out; have := HSO.out; rw [ByteArray.size_extract]; omega⟩
        have HNN : Hid (l ++ nm (s.extract last s.size) = o) := Lib.hid (by rw [nm_ext, List.take_of_length_le (by simp [nm_size])]; exact HOUT.out)
        clear hle hls hi
        go_upto_region 23 with fail
        clear hin hlne
        as_aux_lemma =>
        go_region_with (go_at_call 302
                        refine (bufWrite_any wr.drew B g l (s.extract last s.size) HBd.out HSZ.out.1 HBB.out.2 HSZ.out.2).mono ?_
                        rintro e w5 ⟨rfl, hbuf, hbel⟩
                        rw [HNN.out] at hbuf
                        have HB5 := Lib.hid hbuf
                        have HW5 := Lib.hid (HWd.out.trans hbel)
                        clear hbuf hbel)
        go_wp2_with fail
        go_ret2
        exact ⟨_, rfl, HB5.out, HW5.out⟩
end Go.Proofs.YtadmbphefpfbmaaGreatDoor
