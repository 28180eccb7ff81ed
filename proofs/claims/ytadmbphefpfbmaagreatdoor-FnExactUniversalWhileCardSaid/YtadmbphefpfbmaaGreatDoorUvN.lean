/- The universal program: strings.Replacer's tables: makeGenericReplacer at the three keys. -/
import Derived.Test.YtadmbphefpfbmaaGreatDoorUvO
namespace Go.Proofs.YtadmbphefpfbmaaGreatDoor
open Go.RowKit
set_option linter.unusedVariables false
set_option linter.unusedSimpArgs false
attribute [local go_sem ↓] Go.wp_at_zero Go.wp_at_succ
theorem run_idx256 (ms : List Value) (i : Nat) (v : Value) (hi : i < 256) (hz : ms[i]? = some v) (w : World) : (Instr.index 194 (.agg ms.toArray) (.int .i64 (i : Int))).run Tryz.prog w = .ok v w := by
  have hn : (i : Int) < 256 := by omega
  simp only [Instr.index, asIntOf, Sem.run_bind, Sem.run_pure, Result.andThen_ok, run_underlying Tryz.underlying194]
  simp [hn, go_sem]
  rw [hz]
  rfl
set_option maxRecDepth 100000 in
set_option maxHeartbeats 8000000 in
theorem makeGen_any (w : World) (A : Option Addr) (c : Nat) (v8 v10 v11 : ByteArray) (hr : Rd w A 6 (usV v8 v10 v11)) :
    Calls Tryz.prog 154 #[.slice A 6 c] w fun e w' => ∃ r, e = .returned (ptr r) ∧ TrS w.heap.size v8 v10 v11 w' r 3 ∧ Below w.heap.size w w' := by
  have HR := Lib.hid hr
  obtain ⟨w1, hw1⟩ : ∃ w1, w1 = w.alloc (.cells Tryz.zeroCells239 239) := ⟨_, rfl⟩
  have HB1 : Hid (Below w.heap.size w w1) := Lib.hid (by rw [hw1]; exact below_new _ _)
  have HG1 : Hid (GrB w1 w.heap.size noS 0 (mkL [])) := Lib.hid (by rw [hw1]; have h := box_new w Tryz.zeroCells239 239; rw [zero_gr] at h ⊢; exact h)
  clear hr
  go_enter Tryz.func154, Tryz.ntmps154
  go_upto_region 2 with fail
  rw [← hw1]
  clear hw1
  go_wp2_with fail
  go_loopw [4] (fun u wr => ∃ j m : Nat, j ≤ 3 ∧ u = .int .i64 (m : Int) ∧ Hid (m = 2 * j) ∧ Hid (GrB wr w.heap.size noS 0 (mkL (sB j))) ∧ Hid (Below w.heap.size w wr)) (fun v _ => 6 - (intOf v).toNat)
  case atStart => exact ⟨0, 0, by omega, rfl, Lib.hid rfl, HG1, HB1⟩
  case round =>
    clear HG1 HB1
    obtain ⟨j, m, hj, rfl, HM, HG, HB⟩ := hrel
    by_cases hlt : j < 3
    · have hm6 : (m : Int) < 6 := by have := HM.out; omega
      have hm0 : (0 : Int) ≤ (m : Int) := by omega
      obtain ⟨g, off, rfl, hg, q0⟩ := (HR.out.below HB.out (Nat.le_refl _)).at_ (k := m) (u := .string (keyB j)) (by rw [HM.out]; exact usV_key hlt)
      have HJ := Lib.hid hj; have HJL := Lib.hid hlt
      clear hj hlt hg
      obtain ⟨k, hk⟩ : ∃ k, k = keyB j := ⟨_, rfl⟩
      have HK : Hid (k = keyB j) := Lib.hid hk
      rw [← hk] at q0
      clear hk
      have HKS : Hid (k.size ≤ 3) := Lib.hid (by rw [HK.out]; exact keyB_size j)
      go_wp2_with fail
      go_loopw [6] (fun u w2 => ∃ i : Nat, i ≤ k.size ∧ u = .int .i64 (i : Int) ∧ Hid (GrB w2 w.heap.size noS 0 (mkL (sB j ++ (nm k).take i))) ∧ Hid (Below w.heap.size w w2)) (fun v _ => k.size - (intOf v).toNat)
      case atStart => exact ⟨0, by omega, rfl, Lib.hid (by rw [List.take_zero, List.append_nil]; exact HG.out), HB⟩
      case round =>
        obtain ⟨i, hi, rfl, HG2, HB2⟩ := hrel
        clear HG HB q0
        by_cases hli : i < k.size
        · obtain ⟨x, hx, ex, hx6⟩ := nm_at hli
          have HST : Hid (mkL (sB j ++ (nm k).take (i + 1)) = (mkL (sB j ++ (nm k).take i)).set x (.int .u8 1)) := Lib.hid (by rw [nm_take hx, ← List.append_assoc, mkL_step])
          have exi : ((k[i]'hli).toNat : Int) = (x : Int) := by rw [ex]
          have hx0 : (0 : Int) ≤ (x : Int) := by omega
          have hx2 : (x : Int) < 256 := by omega
          have hii : (i : Int) < (k.size : Int) := by omega
          have hi0 : (0 : Int) ≤ (i : Int) := by omega
          have hi3 : i ≤ 3 := by have := HKS.out; omega
          have xt : wr.drew.cell? ⟨w.heap.size, 6 + x, none⟩ = some (.int .u8 (bit (sB j ++ (nm k).take i) x : Int)) := blk_cell (w := wr.drew) HG2.out (6 + x) (grC_map (mkL_at _ hx6))
          have zt : wr.drew.frozen? ⟨w.heap.size, 6 + x, none⟩ = false := blk_free (w := wr.drew) HG2.out (6 + x)
          have HXX : Hid (x < 256) := Lib.hid hx6
          have HII : Hid (i < k.size) := Lib.hid hli
          clear hx hx6 hi
          go_wp2_with fail
          go_still_tail 7, (by kernel_rfl)
          change wpList _ _ _ _ _ wr.drew
          obtain ⟨w3, hw3⟩ : ∃ w3, w3 = (wr.setCell ⟨w.heap.size, 6 + x, none⟩ (.int .u8 1)).drew := ⟨_, rfl⟩
          have HG3 : Hid (GrB w3 w.heap.size noS 0 (mkL (sB j ++ (nm k).take (i + 1)))) := Lib.hid (by
            rw [hw3, HST.out]
            have h := blk_set (w := wr) HG2.out (6 + x) (.int .u8 1)
            rw [grC_set] at h
            exact h)
          have HB3 : Hid (Below w.heap.size w w3) := Lib.hid (below_ch HB2.out (F := (· = w.heap.size)) (by rw [hw3]; exact ch_drew (ch_set _ _ _ _)) (fun q e => by have e1 : q = w.heap.size := e; omega) HB2.out.size)
          go_wp2_with fail
          rw [← hw3]
          clear hw3 xt zt
          go_roundw
          case rel => exact ⟨i + 1, by have := HII.out; omega, by go_num, HG3, HB3⟩
          case measure => simp [intOf]; have := HII.out; omega
        · obtain rfl : i = k.size := by omega
          have HE : Hid (sB j ++ (nm k).take k.size = sB (j + 1)) := Lib.hid (by rw [List.take_of_length_le (by rw [nm_size]; omega), HK.out]; rfl)
          go_wp2_with fail
          refine ⟨⟨j + 1, m + 2, by have := HJL.out; omega, by go_num, Lib.hid (by have := HM.out; omega), Lib.hid (by rw [← HE.out]; exact HG2.out), HB2⟩, by simp [intOf]; omega⟩
    · obtain rfl : j = 3 := by omega
      have hm6 : ¬ (m : Int) < 6 := by have := HM.out; omega
      have HG3 : Hid (GrB wr w.heap.size noS 0 (mkL (sB 3))) := HG
      clear hlt hj HG
      obtain ⟨ms, hms⟩ : ∃ ms, ms = mkL (sB 3) := ⟨_, rfl⟩
      rw [← hms] at HG3
      have HMS := Lib.hid hms
      have HML : Hid (ms.length = 256) := Lib.hid (by rw [hms, mkL_len])
      have HRA : Hid (wr.rangeAt w.heap.size 6 ms) := Lib.hid (fun q v hv => blk_cell HG3.out (6 + q) (grC_map hv))
      have HSZ : Hid ((Tryz.prog.info? 194).map (·.size) = some ms.length) := Lib.hid (by rw [HML.out]; kernel_rfl)
      clear hms
      go_upto_region 11 with (refine wpList_load_mid (by rfl) 194 (.tmp 39) (by rfl) w.heap.size 6 (by rfl) ms _ HRA.out Tryz.underlying194 rfl HSZ.out ?_)
      clear hm6
      as_aux_lemma =>
      go_loopw [41] (fun u w2 => ∃ i : Nat, i ≤ 256 ∧ u = .int .i64 (i : Int) ∧ Hid (GrB w2 w.heap.size noS (kcn i : Int) ms) ∧ Hid (Below w.heap.size w w2)) (fun v _ => 256 - (intOf v).toNat)
      case atStart => exact ⟨0, by omega, rfl, HG3, HB⟩
      case round =>
        clear HG3 HB HRA
        obtain ⟨i, hi, rfl, HG4, HB4⟩ := hrel
        by_cases hli : i < 256
        · have hii : (i : Int) < 256 := by omega
          have hi0 : (0 : Int) ≤ (i : Int) := by omega
          have hz := fun (w : World) => run_idx256 ms i (.int .u8 (bit (sB 3) i : Int)) hli (by rw [HMS.out]; exact mkL_at (sB 3) hli) w
          have HC1 : Hid (kcn (i + 1) = kcn i + bit (sB 3) i) := Lib.hid rfl
          have HCS : Hid (kcn i ≤ 4 ∧ bit (sB 3) i ≤ 1) := Lib.hid ⟨kcn_small hi, bit_le _ _⟩
          obtain ⟨kc, hkc⟩ : ∃ kc, kc = kcn i := ⟨_, rfl⟩
          obtain ⟨bt, hbt⟩ : ∃ bt, bt = bit (sB 3) i := ⟨_, rfl⟩
          rw [← hkc] at HG4 HCS HC1
          rw [← hbt] at hz HCS HC1
          have hw1 : IntKind.i64.wrap (bt : Int) = (bt : Int) := IntWalk.i64_in _ (by have := HCS.out; omega)
          have hw2 : IntKind.i64.wrap ((kc : Int) + (bt : Int)) = ((kc + bt : Nat) : Int) := by rw [IntWalk.i64_in _ (by have := HCS.out; omega)]; omega
          have x5 : wr.cell? ⟨w.heap.size, 5, none⟩ = some (.int .i64 (kc : Int)) := blk_cell HG4.out 5 (grC_lo rfl)
          have z5 : wr.frozen? ⟨w.heap.size, 5, none⟩ = false := blk_free HG4.out 5
          clear hkc hbt
          go_wp2_with fail
          obtain ⟨w3, hw3⟩ : ∃ w3, w3 = wr.setCell ⟨w.heap.size, 5, none⟩ (.int .i64 ((kc : Int) + (bt : Int))) := ⟨_, rfl⟩
          have HG5 : Hid (GrB w3 w.heap.size noS (kcn (i + 1) : Int) ms) := Lib.hid (by
            rw [hw3, HC1.out]
            have h := blk_set HG4.out 5 (.int .i64 ((kc : Int) + (bt : Int)))
            rw [grC_sz] at h
            rw [Int.natCast_add]
            exact h)
          have HB5 : Hid (Below w.heap.size w w3) := Lib.hid (below_ch HB4.out (F := (· = w.heap.size)) (by rw [hw3]; exact ch_set _ _ _ _) (fun q e => by have e1 : q = w.heap.size := e; omega) HB4.out.size)
          go_roundw
          case rel => exact ⟨i + 1, by omega, by go_num, by rw [← hw3]; exact HG5, by rw [← hw3]; exact HB5⟩
          case measure => simp [intOf]; omega
        · obtain rfl : i = 256 := by omega
          have HG5 : Hid (GrB wr w.heap.size noS 4 ms) := Lib.hid (by have h := HG4.out; rw [kcn_end] at h; exact h)
          have HRA : Hid (wr.rangeAt w.heap.size 6 ms) := Lib.hid (fun q v hv => blk_cell HG5.out (6 + q) (grC_map hv))
          clear HG4 hli hi
          go_upto_region 17 with (refine wpList_load_mid (by rfl) 194 (.tmp 56) (by rfl) w.heap.size 6 (by rfl) ms _ HRA.out Tryz.underlying194 rfl HSZ.out ?_)
          as_aux_lemma =>
          have HG6 : Hid (GrB wr w.heap.size noS 4 (finL 0)) := Lib.hid (by rw [finL_0, ← HMS.out]; exact HG5.out)
          go_loopw [9, 58] (fun u1 u w2 => ∃ i : Nat, i ≤ 256 ∧ u1 = .int .u8 (kcn i : Int) ∧ u = .int .i64 (i : Int) ∧ Hid (GrB w2 w.heap.size noS 4 (finL i)) ∧ Hid (Below w.heap.size w w2)) (fun _ v _ => 256 - (intOf v).toNat)
          case atStart => exact ⟨0, by omega, rfl, rfl, HG6, HB4⟩
          case round =>
            clear HG5 HG6 HB4 HRA
            obtain ⟨i, hi, rfl, rfl, HG4, HB4⟩ := hrel
            by_cases hli : i < 256
            · have hii : (i : Int) < 256 := by omega
              have hi0 : (0 : Int) ≤ (i : Int) := by omega
              have hz := fun (w : World) => run_idx256 ms i (.int .u8 (bit (sB 3) i : Int)) hli (by rw [HMS.out]; exact mkL_at (sB 3) hli) w
              have HC1 : Hid (kcn (i + 1) = kcn i + bit (sB 3) i) := Lib.hid rfl
              have HCS : Hid (kcn i ≤ 4 ∧ bit (sB 3) i ≤ 1) := Lib.hid ⟨kcn_small hi, bit_le _ _⟩
              have HST := Lib.hid (finL_step i)
              have HFI : Hid (finV i = if bit (sB 3) i = 0 then 4 else (kcn i : Int)) := Lib.hid rfl
              obtain ⟨kc, hkc⟩ : ∃ kc, kc = kcn i := ⟨_, rfl⟩
              obtain ⟨bt, hbt⟩ : ∃ bt, bt = bit (sB 3) i := ⟨_, rfl⟩
              obtain ⟨xo, hxo⟩ : ∃ xo : Value, (finL i)[i]? = some xo := ⟨_, List.getElem?_eq_getElem (by rw [finL_len]; omega)⟩
              rw [← hkc] at HCS HC1 HFI ⊢
              rw [← hbt] at hz HCS HC1 HFI
              clear hkc hbt
              have hb9 := HCS.out
              rcases (by omega : bt = 0 ∨ bt = 1) with rfl | rfl
              · have x5 : wr.cell? ⟨w.heap.size, 5, none⟩ = some (.int .i64 4) := blk_cell HG4.out 5 (grC_lo rfl)
                have xt : wr.drew.cell? ⟨w.heap.size, 6 + i, none⟩ = some xo := blk_cell (w := wr.drew) HG4.out (6 + i) (grC_map hxo)
                have zt : wr.drew.frozen? ⟨w.heap.size, 6 + i, none⟩ = false := blk_free (w := wr.drew) HG4.out (6 + i)
                obtain ⟨w3, hw3⟩ : ∃ w3, w3 = (wr.setCell ⟨w.heap.size, 6 + i, none⟩ (.int .u8 4)).drew := ⟨_, rfl⟩
                have HG5 : Hid (GrB w3 w.heap.size noS 4 (finL (i + 1))) := Lib.hid (by
                  rw [hw3, ← HST.out, HFI.out]
                  have h := blk_set (w := wr) HG4.out (6 + i) (.int .u8 4)
                  rw [grC_set] at h
                  exact h)
                have HB5 : Hid (Below w.heap.size w w3) := Lib.hid (below_ch HB4.out (F := (· = w.heap.size)) (by rw [hw3]; exact ch_drew (ch_set _ _ _ _)) (fun q e => by have e1 : q = w.heap.size := e; omega) HB4.out.size)
                go_wp2_with fail
                go_still_tail 10, (by kernel_rfl)
                change wpList _ _ _ _ _ wr.drew
                go_wp2_with fail
                rw [← hw3]
                clear hw3 xt zt x5
                go_roundw
                case rel => exact ⟨i + 1, by omega, by rw [HC1.out]; rfl, by go_num, HG5, HB5⟩
                case measure => simp [intOf]; omega
              · have xt : wr.cell? ⟨w.heap.size, 6 + i, none⟩ = some xo := blk_cell HG4.out (6 + i) (grC_map hxo)
                have zt : wr.frozen? ⟨w.heap.size, 6 + i, none⟩ = false := blk_free HG4.out (6 + i)
                obtain ⟨w3, hw3⟩ : ∃ w3, w3 = wr.setCell ⟨w.heap.size, 6 + i, none⟩ (.int .u8 (kc : Int)) := ⟨_, rfl⟩
                have HG5 : Hid (GrB w3 w.heap.size noS 4 (finL (i + 1))) := Lib.hid (by
                  rw [hw3, ← HST.out, HFI.out]
                  have h := blk_set HG4.out (6 + i) (.int .u8 (kc : Int))
                  rw [grC_set] at h
                  exact h)
                have HB5 : Hid (Below w.heap.size w w3) := Lib.hid (below_ch HB4.out (F := (· = w.heap.size)) (by rw [hw3]; exact ch_set _ _ _ _) (fun q e => by have e1 : q = w.heap.size := e; omega) HB4.out.size)
                have hw8 : IntKind.u8.wrap ((kc : Int) + 1) = (kc : Int) + 1 := IntWalk.u8_in _ (by omega)
                go_wp2_with fail
                rw [← hw3]
                clear hw3 xt zt
                go_roundw
                case rel => exact ⟨i + 1, by omega, by rw [HC1.out]; first | rfl | go_num, by go_num, HG5, HB5⟩
                case measure => simp [intOf]; omega
            · obtain rfl : i = 256 := by omega
              have HG5 : Hid (GrB wr w.heap.size noS 4 mpL) := Lib.hid (by have h := HG4.out; rw [finL_end] at h; exact h)
              clear HG4 hli hi
              have hmk := run_mkTab wr
              have x5 : wr.cell? ⟨w.heap.size, 5, none⟩ = some (.int .i64 4) := blk_cell HG5.out 5 (grC_lo rfl)
              obtain ⟨w2, hw2⟩ : ∃ w2, w2 = wr.alloc (.cells #[.pointer none, .pointer none, .pointer none, .pointer none] 234) := ⟨_, rfl⟩
              have hg2 : GrB w2 w.heap.size noS 4 mpL := by rw [hw2]; exact blk_ch HG5.out (ch_alloc (fun _ => False) _ _) (fun h => h)
              have ht2 : TabAt w2 wr.heap.size none none none none := by rw [hw2]; exact box_new _ _ _
              have hb2 : Below w.heap.size w w2 := by rw [hw2]; exact bqcP (below_new _ _) HB4.out
              rw [← hw2] at hmk
              have x4 : w2.cell? ⟨w.heap.size, 4, none⟩ = some noS := blk_cell hg2 4 (grC_lo rfl)
              have z4 : w2.frozen? ⟨w.heap.size, 4, none⟩ = false := blk_free hg2 4
              obtain ⟨w3, hw3⟩ : ∃ w3, w3 = w2.setCell ⟨w.heap.size, 4, none⟩ (.slice (some ⟨wr.heap.size, 0, none⟩) 4 4) := ⟨_, rfl⟩
              have hc3 : Ch (· = w.heap.size) w2 w3 := by rw [hw3]; exact ch_set _ _ _ _
              have HB3 : Hid (Below w.heap.size w w3) := Lib.hid (below_ch hb2 hc3 (fun q e => by have e1 : q = w.heap.size := e; omega) hb2.size)
              have HT3 : Hid (TrS w.heap.size v8 v10 v11 w3 w.heap.size 0) := Lib.hid ⟨wr.heap.size, ⟨Nat.le_refl _, HB4.out.size⟩, (by
                rw [hw3]
                have h := blk_set hg2 4 (.slice (some ⟨wr.heap.size, 0, none⟩) 4 4)
                rw [grC_tb] at h
                exact h), blk_ch ht2 hc3 (fun e => gr_ne_tab hg2 ht2 e.symm)⟩
              clear hw2 hg2 ht2 hb2 hc3
              go_upto_region 26 with fail
              rw [← hw3]
              clear hw3 x4 z4 x5 hmk HG5 HB4
              as_aux_lemma =>
              go_loopw [12] (fun u wr => ∃ j m : Nat, j ≤ 3 ∧ u = .int .i64 (m : Int) ∧ Hid (m = 2 * j) ∧ Hid (TrS w.heap.size v8 v10 v11 wr w.heap.size j) ∧ Hid (Below w.heap.size w wr)) (fun v _ => 6 - (intOf v).toNat)
              case atStart => exact ⟨0, 0, by omega, rfl, Lib.hid rfl, HT3, HB3⟩
              case round =>
                clear HT3 HB3
                obtain ⟨j, m, hj, rfl, HM, HT, HB⟩ := hrel
                rcases (by omega : j = 0 ∨ j = 1 ∨ j = 2 ∨ j = 3) with rfl | rfl | rfl | rfl
                · obtain rfl : m = 0 := HM.out
                  obtain ⟨g, off, rfl, hg, q0⟩ := (HR.out.below HB.out (Nat.le_refl _)).at_ (k := 0) (u := .string (keyB 0)) rfl
                  obtain ⟨g', off', eg, _, q1⟩ := (HR.out.below HB.out (Nat.le_refl _)).at_ (k := 1) (u := .string v8) rfl
                  injection eg with eg
                  injection eg with e1 e2
                  subst e1; subst e2
                  clear hg
                  have HTd : Hid (TrS w.heap.size v8 v10 v11 wr.drew w.heap.size 0) := HT
                  have hs1 : IntKind.i64.wrap ((0 : Int) + 1) = 1 := rfl
                  have hs2 : IntKind.i64.wrap ((6 : Int) - 0) = 6 := rfl
                  have hs3 : IntKind.i64.wrap (1 : Int) = 1 := rfl
                  have hs4 : IntKind.i64.wrap (6 : Int) = 6 := rfl
                  rw [Nat.add_zero] at q0
                  go_wp2_with fail
                  go_still_tail 17, (by kernel_rfl)
                  change wpList _ _ _ _ _ wr.drew
                  go_wp2_with (go_at_call 186
                               refine (addStep0 w.heap.size v8 v10 v11 wr.drew w.heap.size HTd.out HB.out.size).mono ?_
                               rintro e w5 ⟨rfl, ht, hc⟩
                               have HT5 := Lib.hid ht
                               have HB5 : Hid (Below w.heap.size w w5) := Lib.hid (below_ch (below_drew1 HB.out) hc (fun q e => e) HB.out.size)
                               clear ht hc)
                  go_roundw
                  case rel => exact ⟨_, _, _, _, _, _, _, _, _, _, _, _, _, _, _, _, _, _, _, _, _, _, _, _, _, ⟨1, 2, by omega, rfl, Lib.hid rfl, HT5, HB5⟩, rfl⟩
                  case measure => simp [intOf]
                · obtain rfl : m = 2 := HM.out
                  obtain ⟨g, off, rfl, hg, q0⟩ := (HR.out.below HB.out (Nat.le_refl _)).at_ (k := 2) (u := .string (keyB 1)) rfl
                  obtain ⟨g', off', eg, _, q1⟩ := (HR.out.below HB.out (Nat.le_refl _)).at_ (k := 3) (u := .string v10) rfl
                  injection eg with eg
                  injection eg with e1 e2
                  subst e1; subst e2
                  clear hg
                  have HTd : Hid (TrS w.heap.size v8 v10 v11 wr.drew w.heap.size 1) := HT
                  have hs1 : IntKind.i64.wrap ((2 : Int) + 1) = 3 := rfl
                  have hs2 : IntKind.i64.wrap ((6 : Int) - 2) = 4 := rfl
                  have hs3 : IntKind.i64.wrap (3 : Int) = 3 := rfl
                  have hs4 : IntKind.i64.wrap (4 : Int) = 4 := rfl
                  go_wp2_with fail
                  go_still_tail 17, (by kernel_rfl)
                  change wpList _ _ _ _ _ wr.drew
                  go_wp2_with (go_at_call 186
                               refine (addStep1 w.heap.size v8 v10 v11 wr.drew w.heap.size HTd.out HB.out.size).mono ?_
                               rintro e w5 ⟨rfl, ht, hc⟩
                               have HT5 := Lib.hid ht
                               have HB5 : Hid (Below w.heap.size w w5) := Lib.hid (below_ch (below_drew1 HB.out) hc (fun q e => e) HB.out.size)
                               clear ht hc)
                  go_roundw
                  case rel => exact ⟨_, _, _, _, _, _, _, _, _, _, _, _, _, _, _, _, _, _, _, _, _, _, _, _, _, ⟨2, 4, by omega, rfl, Lib.hid rfl, HT5, HB5⟩, rfl⟩
                  case measure => simp [intOf]
                · obtain rfl : m = 4 := HM.out
                  obtain ⟨g, off, rfl, hg, q0⟩ := (HR.out.below HB.out (Nat.le_refl _)).at_ (k := 4) (u := .string (keyB 2)) rfl
                  obtain ⟨g', off', eg, _, q1⟩ := (HR.out.below HB.out (Nat.le_refl _)).at_ (k := 5) (u := .string v11) rfl
                  injection eg with eg
                  injection eg with e1 e2
                  subst e1; subst e2
                  clear hg
                  have HTd : Hid (TrS w.heap.size v8 v10 v11 wr.drew w.heap.size 2) := HT
                  have hs1 : IntKind.i64.wrap ((4 : Int) + 1) = 5 := rfl
                  have hs2 : IntKind.i64.wrap ((6 : Int) - 4) = 2 := rfl
                  have hs3 : IntKind.i64.wrap (5 : Int) = 5 := rfl
                  have hs4 : IntKind.i64.wrap (2 : Int) = 2 := rfl
                  go_wp2_with fail
                  go_still_tail 17, (by kernel_rfl)
                  change wpList _ _ _ _ _ wr.drew
                  go_wp2_with (go_at_call 186
                               refine (addStep2 w.heap.size v8 v10 v11 wr.drew w.heap.size HTd.out HB.out.size).mono ?_
                               rintro e w5 ⟨rfl, ht, hc⟩
                               have HT5 := Lib.hid ht
                               have HB5 : Hid (Below w.heap.size w w5) := Lib.hid (below_ch (below_drew1 HB.out) hc (fun q e => e) HB.out.size)
                               clear ht hc)
                  go_roundw
                  case rel => exact ⟨_, _, _, _, _, _, _, _, _, _, _, _, _, _, _, _, _, _, _, _, _, _, _, _, _, ⟨3, 6, by omega, rfl, Lib.hid rfl, HT5, HB5⟩, rfl⟩
                  case measure => simp [intOf]
                · obtain rfl : m = 6 := HM.out
                  go_wp2_with fail
                  go_ret
                  exact ⟨w.heap.size, rfl, HT.out, HB.out⟩
end Go.Proofs.YtadmbphefpfbmaaGreatDoor
