/- Word pieces: the table of borders. -/
import Derived.Test.YtbecofpklndpaaaWp2
namespace Go.Proofs.Ytbecofpklndpaaa
open Go.RowKit
set_option linter.unusedVariables false
set_option linter.unusedSimpArgs false
theorem Try.infoN : (Try.prog.info? 3).map (fun i => (i.zero, i.size, i.bytes)) = some (some (.int .i64 0), 1, 8) := by kernel_rfl
theorem Try.eltN : Elt Try.prog 193 3 (.int .i64 0) := Elt.mk_ Try.underlying193 Try.infoN rfl (by decide)
/-- The table while it is being laid: i entries, then zeros. -/
def tabV (xs : List Int) (i n : Nat) : List Int := (ptTo xs i).map (fun t : Nat => (t : Int)) ++ List.replicate (n - i) 0
theorem tabV_len {xs : List Int} {i n : Nat} (h : i ≤ n) : (tabV xs i n).length = n := by simp [tabV, ptTo_len]; omega
theorem tabV_start {xs : List Int} {n : Nat} (h : 1 ≤ n) : List.replicate n 0 = tabV xs 1 n := by
  obtain ⟨m, rfl⟩ : ∃ m, n = m + 1 := ⟨n - 1, by omega⟩
  simp [tabV, ptTo, List.replicate_succ]
theorem tabV_get {xs : List Int} {i n j : Nat} (h : j < i) : (tabV xs i n)[j]? = some (((ptTo xs i).getD j 0 : Nat) : Int) := by
  unfold tabV
  rw [List.getElem?_append_left (by simp [ptTo_len]; exact h), List.getElem?_map, List.getD_eq_getElem?_getD, List.getElem?_eq_getElem (by rw [ptTo_len]; exact h)]
  simp
theorem tabV_step {xs : List Int} {i n : Nat} (h1 : 1 ≤ i) (h : i < n) : (tabV xs i n).set i ((nx xs (ptTo xs i) i : Nat) : Int) = tabV xs (i + 1) n := by
  obtain ⟨m, hm⟩ : ∃ m, n - i = m + 1 := ⟨n - i - 1, by omega⟩
  obtain ⟨j, rfl⟩ : ∃ j, i = j + 1 := ⟨i - 1, by omega⟩
  unfold tabV
  rw [hm, show n - (j + 1 + 1) = m by omega, List.replicate_succ, List.set_append_right _ _ (by simp [ptTo_len])]
  simp [ptTo_len, ptTo]
theorem fall_stop {w : List Int} {tb : List Nat} {x : Int} {f k : Nat} (hk : k ≤ f) (h : k = 0 ∨ w.getD k 0 = x) : fall w tb x f k = k := by
  cases f with
  | zero => obtain rfl : k = 0 := by omega
            rfl
  | succ f =>
    unfold fall
    rw [if_neg]
    rintro ⟨h1, h2⟩
    rcases h with h | h
    · omega
    · exact h2 h
theorem fall_go {w : List Int} {tb : List Nat} {x : Int} {f k : Nat} (h1 : 0 < k) (h2 : ¬ w.getD k 0 = x) : fall w tb x (f + 1) k = fall w tb x f (tb.getD (k - 1) 0) := by
  conv => lhs; unfold fall
  rw [if_pos ⟨h1, h2⟩]
theorem drwN {w wr : World} (h : ∃ n, wr = w.drewN n) (k : Nat) : ∃ m, wr.drewN k = w.drewN m := by obtain ⟨n, rfl⟩ := h; exact ⟨_, World.drewN_drewN _ _ _⟩
set_option maxHeartbeats 8000000 in
set_option maxRecDepth 100000 in
theorem prefixTable_any (w : World) (A : Option Addr) (n c : Nat) (xs : List Int) (hr : Rd w A n (ints xs)) (h1 : 1 ≤ n) (hn : n ≤ 1000) :
    Calls Try.prog 167 #[.slice A n c] w fun e w' => ∃ g c', e = .returned (.slice (some ⟨g, 0, none⟩) n c') ∧ w'.ownsRow w.heap.size 3 1 (.slice (some ⟨g, 0, none⟩) n c') n (ints ((ptTo xs n).map (fun t : Nat => (t : Int)))) ∧ Below w.heap.size w w' := by
  have HL : Hid (xs.length = n) := Lib.hid (by simpa using hr.1)
  obtain ⟨b, off, rfl, hbs, hcc⟩ := hr.2 (by omega)
  have HCC : Hid (∀ k, k < n → w.cell? ⟨b, off + k, none⟩ = some (.int .i64 (xs.getD k 0))) := Lib.hid (fun k hk => hcc k _ (by
    have h : xs[k]? = some (xs.getD k 0) := by rw [List.getD_eq_getElem?_getD, List.getElem?_eq_getElem (by rw [HL.out]; exact hk)]; rfl
    exact ints_get h))
  clear hcc
  go_enter Try.func167, Try.ntmps167
  go_wp2_with (at_make; go_must (refine wpList_mk Try.eltN rfl _ _ rfl w _ _ n (by rfl) (by rfl) (by omega) (by omega) (by omega) ?_); rintro w1 hown1 hb1 hs1)
  have hst : w1.ownsRow w.heap.size 3 1 (.slice (some ⟨w.heap.size, 0, none⟩) n n) n (ints (tabV xs 1 n)) := by
    have e : List.replicate n (Value.int .i64 0) = ints (tabV xs 1 n) := by rw [← tabV_start (xs := xs) h1]; simp
    rw [← e]; exact hown1
  have HST := Lib.hid hst; have HB1 := Lib.hid hb1
  clear hown1 hst hb1 hs1
  go_wp2_with fail
  go_loopw [4] (fun q wr => ∃ i : Nat, 1 ≤ i ∧ i ≤ n ∧ q = .int .i64 i ∧ wr.ownsRow w.heap.size 3 1 (.slice (some ⟨w.heap.size, 0, none⟩) n n) n (ints (tabV xs i n)) ∧ Below w.heap.size w wr) (fun q _ => n - (intOf q).toNat)
  case atStart => exact ⟨1, by omega, h1, rfl, HST.out, HB1.out⟩
  case round =>
    clear HST HB1
    obtain ⟨i, hi1, hin, rfl, hown, hb⟩ := hrel
    obtain ⟨wo, rfl⟩ : ∃ wo : World, wo = wr := ⟨_, rfl⟩
    by_cases hlt : i < n
    · have hlt' : (i : Int) < (n : Int) := by omega
      have hok := ptTo_ok xs i hi1
      obtain ⟨t0, ht0⟩ : ∃ t0, t0 = (ptTo xs i).getD (i - 1) 0 := ⟨_, rfl⟩
      have ht0b : t0 ≤ i - 1 := by rw [ht0]; exact (hok (i - 1) (by omega)).1
      have hg0 := (own_get hown (k := i - 1) (ints_get (tabV_get (j := i - 1) (n := n) (by omega)))).choose_spec.2.2.2.1
      obtain ⟨g0, hgA, _, hglt, hcell, _⟩ := own_get hown (k := i - 1) (ints_get (tabV_get (j := i - 1) (n := n) (by omega)))
      clear hg0
      injection hgA with hgA
      injection hgA with hgA
      subst hgA
      rw [← ht0] at hcell
      have hw : IntKind.i64.wrap ((i : Int) - 1) = (i : Int) - 1 := IntWalk.i64_in _ (by omega)
      have htn : ((i : Int) - 1).toNat = i - 1 := by omega
      have hi0 : (0 : Int) ≤ (i : Int) - 1 := by omega
      have hi2 : (i : Int) - 1 < (n : Int) := by omega
      have hii : (0 : Int) ≤ (i : Int) := by omega
      have hci := (hb.cell (p := ⟨b, off + i, none⟩) hbs).trans (HCC.out i hlt)
      have HOK := Lib.hid hok; have HOW := Lib.hid hown; have HB := Lib.hid hb
      have HK : Hid (fall xs (ptTo xs i) (xs.getD i 0) i t0 = fall xs (ptTo xs i) (xs.getD i 0) i ((ptTo xs i).getD (i - 1) 0)) := Lib.hid (by rw [ht0])
      clear hok hown ht0
      generalize hx : xs.getD i 0 = x at *
      have HX := Lib.hid hx
      clear hx
      go_wp2_with fail
      go_loopw [5] (fun q wr => ∃ k f : Nat, k ≤ f ∧ k < i ∧ q = .int .i64 k ∧ Hid (fall xs (ptTo xs i) x f k = fall xs (ptTo xs i) x i t0) ∧ Hid (∃ nq, wr = wo.drewN nq)) (fun q _ => (intOf q).toNat)
      case atStart => exact ⟨t0, i, by omega, by omega, rfl, Lib.hid rfl, Lib.hid ⟨0, rfl⟩⟩
      case round =>
        obtain ⟨k, f, hkf, hki, rfl, HF, hw0⟩ := hrel
        have hbq : Below wo.heap.size wo wr := by obtain ⟨nr, h⟩ := hw0.out; rw [h]; exact below_drewN (Below.refl _ _)
        clear hcell
        replace hci := (hbq.cell (p := ⟨b, off + i, none⟩) (Nat.lt_of_lt_of_le hbs HB.out.size)).trans hci
        have hck := (hbq.cell (p := ⟨b, off + k, none⟩) (Nat.lt_of_lt_of_le hbs HB.out.size)).trans ((HB.out.cell (p := ⟨b, off + k, none⟩) hbs).trans (HCC.out k (by omega)))
        have hkn : (k : Int) < (n : Int) := by omega
        have hkn' : k < n := by omega
        have hk0' : (0 : Int) ≤ (k : Int) := by omega
        have HOQ := Lib.hid (ownN_below HOW.out hbq (Nat.le_refl _))
        have HBQ := Lib.hid hbq
        have hlq : w.heap.size < wr.heap.size := by obtain ⟨cs, hcs⟩ := own_blk HOQ.out; exact blk_lt hcs
        clear hbq
        generalize hy : xs.getD k 0 = y at *
        have HY := Lib.hid hy
        clear hy
        have HNX : Hid (fall xs (ptTo xs i) x f k = k → nx xs (ptTo xs i) i = if y = x then k + 1 else k) := Lib.hid (fun h => by
          have e : fall xs (ptTo xs i) (xs.getD i 0) i ((ptTo xs i).getD (i - 1) 0) = k := by rw [HX.out, ← HK.out, ← HF.out, h]
          unfold nx
          rw [e, HY.out, HX.out])
        by_cases hyx : y = x
        · have HN : Hid (nx xs (ptTo xs i) i = k + 1) := Lib.hid (by rw [HNX.out (fall_stop hkf (.inr (by rw [HY.out]; exact hyx))), if_pos hyx])
          have hne : (y != x) = false := by simp [hyx]
          have heq : (y == x) = true := by simp [hyx]
          have HS := Lib.hid (fun nq => own_put (ownN_below HOQ.out (below_drewN (n := nq) (Below.refl wr.heap.size wr)) (Nat.le_refl _)) i (.int .i64 ((k : Int) + 1)))
          have HV : Hid ((ints (tabV xs i n)).set i (.int .i64 ((k : Int) + 1)) = ints (tabV xs (i + 1) n)) := Lib.hid (by rw [← tabV_step hi1 hlt, HN.out]; simp [List.map_set])
          have fz := HOQ.out.frozenAt i
          obtain ⟨u, hu⟩ : ∃ u, wr.cell? ⟨w.heap.size, i, none⟩ = some u := by
            obtain ⟨u, hu⟩ := get_some (xs := tabV xs i n) (k := i) (by rw [tabV_len (by omega)]; exact hlt)
            obtain ⟨g1, hg1, _, _, hc1, _⟩ := own_get HOQ.out (ints_get hu)
            injection hg1 with hg1
            injection hg1 with hg1
            exact ⟨_, by rw [hg1]; exact hc1⟩
          have hwk : IntKind.i64.wrap ((k : Int) + 1) = (k : Int) + 1 := IntWalk.i64_in _ (by omega)
          subst hyx
          by_cases h0 : k = 0
          · subst h0
            simp only [Nat.add_zero] at hck
            go_wp2_with fail
            go_quiet (fail)
            go_wp2_with fail
            go_quiet (fail)
            go_wp2_with fail
            go_roundw
            case rel => exact ⟨i + 1, by omega, by omega, by go_num, by rw [← HV.out]; exact HS.out _, (below_drewN (HB.out.trans (HBQ.out.mono HB.out.size))).setCell (p := ⟨w.heap.size, i, none⟩) (Nat.le_refl _) _⟩
            case measure => simp [intOf]; omega
          · have hkp : (0 : Int) < (k : Int) := by omega
            have hkp' : 0 < k := by omega
            go_wp2_with fail
            go_quiet (fail)
            go_wp2_with fail
            go_quiet (fail)
            go_wp2_with fail
            go_roundw
            case rel => exact ⟨i + 1, by omega, by omega, by go_num, by rw [← HV.out]; exact HS.out _, (below_drewN (HB.out.trans (HBQ.out.mono HB.out.size))).setCell (p := ⟨w.heap.size, i, none⟩) (Nat.le_refl _) _⟩
            case measure => simp [intOf]; omega
        · have hne : (y != x) = true := by simpa using hyx
          have heq : (y == x) = false := by simpa using hyx
          by_cases h0 : k = 0
          · subst h0
            simp only [Nat.add_zero] at hck
            have HN : Hid (nx xs (ptTo xs i) i = 0) := Lib.hid (by rw [HNX.out (fall_stop hkf (.inl rfl)), if_neg hyx])
            have HS := Lib.hid (fun nq => own_put (ownN_below HOQ.out (below_drewN (n := nq) (Below.refl wr.heap.size wr)) (Nat.le_refl _)) i (.int .i64 0))
            have HV : Hid ((ints (tabV xs i n)).set i (.int .i64 0) = ints (tabV xs (i + 1) n)) := Lib.hid (by rw [← tabV_step hi1 hlt, HN.out]; simp [List.map_set])
            have fz := HOQ.out.frozenAt i
            obtain ⟨u, hu⟩ : ∃ u, wr.cell? ⟨w.heap.size, i, none⟩ = some u := by
              obtain ⟨u, hu⟩ := get_some (xs := tabV xs i n) (k := i) (by rw [tabV_len (by omega)]; exact hlt)
              obtain ⟨g1, hg1, _, _, hc1, _⟩ := own_get HOQ.out (ints_get hu)
              injection hg1 with hg1
              injection hg1 with hg1
              exact ⟨_, by rw [hg1]; exact hc1⟩
            go_wp2_with fail
            go_quiet (fail)
            go_wp2_with fail
            go_quiet (fail)
            go_wp2_with fail
            go_roundw
            case rel => exact ⟨i + 1, by omega, by omega, by go_num, by rw [← HV.out]; exact HS.out _, (below_drewN (HB.out.trans (HBQ.out.mono HB.out.size))).setCell (p := ⟨w.heap.size, i, none⟩) (Nat.le_refl _) _⟩
            case measure => simp [intOf]; omega
          · have hkp : (0 : Int) < (k : Int) := by omega
            have hkp' : 0 < k := by omega
            obtain ⟨f', rfl⟩ : ∃ f', f = f' + 1 := ⟨f - 1, by omega⟩
            have HG : Hid (fall xs (ptTo xs i) x (f' + 1) k = fall xs (ptTo xs i) x f' ((ptTo xs i).getD (k - 1) 0)) := Lib.hid (fall_go hkp' (by rw [HY.out]; exact hyx))
            obtain ⟨t1, ht1⟩ : ∃ t1, t1 = (ptTo xs i).getD (k - 1) 0 := ⟨_, rfl⟩
            have ht1b : t1 ≤ k - 1 := by rw [ht1]; exact (HOK.out (k - 1) (by omega)).1
            obtain ⟨g1, hg1, _, _, hct, _⟩ := own_get HOQ.out (k := k - 1) (ints_get (tabV_get (j := k - 1) (n := n) (by omega)))
            injection hg1 with hg1
            injection hg1 with hg1
            subst hg1
            rw [← ht1] at hct
            have HT1 : Hid (fall xs (ptTo xs i) x (f' + 1) k = fall xs (ptTo xs i) x f' t1) := Lib.hid (by rw [HG.out, ht1])
            have hwk : IntKind.i64.wrap ((k : Int) - 1) = (k : Int) - 1 := IntWalk.i64_in _ (by omega)
            have htk : ((k : Int) - 1).toNat = k - 1 := by omega
            have hik0 : (0 : Int) ≤ (k : Int) - 1 := by omega
            have hik2 : (k : Int) - 1 < (n : Int) := by omega
            clear ht1
            go_wp2_with fail
            go_quiet (fail)
            go_wp2_with fail
            go_roundw
            case rel => exact ⟨t1, f', by omega, by omega, rfl, Lib.hid (by rw [← HT1.out]; exact HF.out), Lib.hid (drwN hw0.out _)⟩
            case measure => simp [intOf]; omega
    · obtain rfl : i = n := by omega
      go_wp2_with fail
      go_ret
      refine ⟨w.heap.size, i, rfl, ?_, hb⟩
      have e : tabV xs i i = (ptTo xs i).map (fun t : Nat => (t : Int)) := by simp [tabV]
      rw [← e]
      exact hown
end Go.Proofs.Ytbecofpklndpaaa
