/- UnweaveNatural: the reference's function and the program's give the same two lists and code. -/
import Derived.Test.YtdpkcnjoklnoeaaTwo
namespace Go.Proofs.Ytdpkcnjoklnoeaa
open Go.RowKit Limb

/-- Two lists in rows of their own, and a code. -/
def RetSSI (w : World) (e : TypeId) (vs us : List Value) (code : Int) (en : Ending) (w' : World) : Prop :=
  ∃ A n c A' n' c', en = .returned (.tuple #[.slice A n c, .slice A' n' c', .int .i64 code]) ∧ w'.ownsRow w.heap.size e 1 (.slice A n c) n vs ∧ w'.ownsRow w.heap.size e 1 (.slice A' n' c') n' us ∧
    (∀ k, (Value.slice A n c).ownBlock = some k → (Value.slice A' n' c').ownBlock = some k → False) ∧ Below w.heap.size w w'

theorem grown_undrew {W w' : World} {r : Option Nat} (h : W.drew.grownBy w' r) : W.grownBy w' r := ⟨h.os, h.tape, h.output, h.size, h.block⟩

def unwA (X : Nat) : Nat := joinVal 10 (evs (digs 10 X))
def unwB (X : Nat) : Nat := joinVal 10 (ods (digs 10 X))
def unwNum (xs : List Int) : List Int × List Int × Int := if isNatB xs = true then (limbs (unwA (natOf xs)), limbs (unwB (natOf xs)), 0) else ([], [], 1)
theorem unwNum_ok {X : Nat} (h : isNatB (limbs X) = true) : unwNum (limbs X) = (limbs (unwA X), limbs (unwB X), 0) := by simp only [unwNum, if_pos h, natOf_limbs]
theorem unwNum_bad {xs : List Int} (h : isNatB xs = false) : unwNum xs = ([], [], 1) := by simp [unwNum, h]
theorem unw_fit (X : Nat) (h : (limbs X).length ≤ 40) : (limbs (unwA X)).length ≤ 40 ∧ (limbs (unwB X)).length ≤ 40 := by
  have h1 := evs_le (digs 10 X)
  rw [joinVal_digs (by omega)] at h1
  exact ⟨Nat.le_trans (limbs_len_mono h1.1) h, Nat.le_trans (limbs_len_mono h1.2) h⟩
theorem unwNum_len (xs : List Int) : (unwNum xs).1.length ≤ 1000000 ∧ (unwNum xs).2.1.length ≤ 1000000 := by
  by_cases h : isNatB xs = true
  · obtain ⟨X, rfl, hX⟩ := isNat_limbs h
    have := unw_fit X hX
    rw [unwNum_ok h]
    simp only; omega
  · rw [unwNum_bad (by simpa using h)]; simp

theorem unw_even {xd l0 l1 : List Int} {k : Nat} {d : Int} (hd : xd[k]? = some d) (hk : k % 2 = 0) (h : l0 = evs (xd.take k) ∧ l1 = ods (xd.take k)) : l0 ++ [d] = evs (xd.take (k + 1)) ∧ l1 = ods (xd.take (k + 1)) := by
  have hl : (xd.take k).length = k := by have := (List.getElem?_eq_some_iff.1 hd).1; simp; omega
  have e := (evs_snoc d (xd.take k)).1 (by omega)
  rw [List.take_add_one, hd, h.1, h.2]
  exact ⟨e.1.symm, e.2.symm⟩
theorem unw_odd {xd l0 l1 : List Int} {k : Nat} {d : Int} (hd : xd[k]? = some d) (hk : k % 2 = 1) (h : l0 = evs (xd.take k) ∧ l1 = ods (xd.take k)) : l0 = evs (xd.take (k + 1)) ∧ l1 ++ [d] = ods (xd.take (k + 1)) := by
  have hl : (xd.take k).length = k := by have := (List.getElem?_eq_some_iff.1 hd).1; simp; omega
  have e := (evs_snoc d (xd.take k)).2 (by omega)
  rw [List.take_add_one, hd, h.1, h.2]
  exact ⟨e.1.symm, e.2.symm⟩

set_option maxHeartbeats 4000000 in
theorem specUnweaveNatural_any (w : World) (A : Option Addr) (n c : Nat) (xs : List Int) (hr : Rd w A n (ints xs)) (hn : n ≤ 1099511627776) :
    Calls Try.prog 29 #[.slice A n c] w (RetSSI w 2 (ints (unwNum xs).1) (ints (unwNum xs).2.1) (unwNum xs).2.2) := by
  by_cases hN : isNatB xs = true
  · obtain ⟨X, rfl, hX⟩ := isNat_limbs hN
    have HF := Lib.hid (unwNum_ok hN)
    have hnx : n ≤ 40 := by have h := hr.1; simp at h; omega
    have HFIT := Lib.hid (unw_fit X hX)
    have HDX : Hid ((digs 10 X).length ≤ 800) := Lib.hid (by have := digs_len_limbs (b := 10) (by omega) X; omega)
    clear hX
    go_enter Try.func29, Try.ntmps29
    go_wp2_with (go_at_call 62; refine (l02Is_any _ _ _ _ _ hr hn).mono ?_; rintro e w' ⟨rfl, rfl⟩)
    clear hN
    refine (l02Digits_any _ _ _ _ X hr (by omega) 10 (by omega) (by omega)).mono ?_
    rintro e w1 ⟨A1, n1, c1, rfl, ho1, hb1⟩
    rw [show (10 : Int).toNat = 10 from rfl] at ho1
    have hr1 := own_rd ho1
    have hl1 : (digs 10 X).length = n1 := by simpa using ho1.1
    have hn1 : n1 ≤ 800 := by have := HDX.out; omega
    have HVA : Hid (unwA X = joinVal 10 (evs (digs 10 X))) := Lib.hid rfl
    have HVB : Hid (unwB X = joinVal 10 (ods (digs 10 X))) := Lib.hid rfl
    have HIN := Lib.hid (evs_in (b := 10) (digs 10 X) (digs_in (b := 10) (by omega) X))
    have HLN := Lib.hid (evs_len (digs 10 X))
    have HL1 := Lib.hid hl1
    clear hl1 HDX ho1 hr
    generalize digs 10 X = xd at hr1 HL1 HVA HVB HIN HLN
    go_wp2_with fail
    go_loopw [7] (fun i wr => ∃ (k : Nat) (l0 l1 : List Int) (v0 v1 : Value), i = .int .i64 k ∧ k ≤ n1 ∧ Hid (l0 = evs (xd.take k) ∧ l1 = ods (xd.take k)) ∧ l0.length ≤ k ∧ l1.length ≤ k ∧ TwoRel w1.heap.size 2 22 (w1.heap.size + 1 + 1) w1 l0 l1 v0 v1 wr) (fun i _ => n1 - (intOf i).toNat)
    case atStart =>
      refine ⟨0, [], [], .slice (some ⟨w1.heap.size, 0, none⟩) 0 0, .slice (some ⟨w1.heap.size + 1, 0, none⟩) 0 0, rfl, by omega, Lib.hid ⟨rfl, rfl⟩, by simp, by simp, ?_⟩
      have a0 := own_lit w1 #[] 0 2 rfl (by omega)
      have a1 := own_base (own_lit (w1.alloc (.cells #[] 2)) #[] 0 2 rfl (by omega)) (base' := w1.heap.size) (by simp)
      refine ⟨?_, ?_, ?_, ?_, ?_, by simp; omega, by omega, by decide⟩
      · have := heap_alloc_new ((w1.alloc (.cells #[] 2)).alloc (.cells #[] 2)) (.cells #[.slice (some ⟨w1.heap.size, 0, none⟩) 0 0, .slice (some ⟨w1.heap.size + 1, 0, none⟩) 0 0] 22)
        simpa using this
      · exact (a0.alloc _).alloc _
      · have h := a1.alloc (.cells #[.slice (some ⟨w1.heap.size, 0, none⟩) 0 0, .slice (some ⟨w1.heap.size + 1, 0, none⟩) 0 0] 22)
        simpa using h
      · intro k h1 h2
        simp [Value.ownBlock] at h1 h2; omega
      · exact (((Below.refl _ _).alloc (Nat.le_refl _) _).alloc (by simp) _).alloc (by simp; omega) _
    case round =>
      obtain ⟨k, l0, l1, v0, v1, rfl, hk, HLL, hl0, hl1, hrel2⟩ := hrel
      have hgp := hrel2.1
      have hb := hrel2.2.2.2.2.1
      have hs6 := hrel2.2.2.2.2.2.1
      have HR2 := Lib.hid hrel2
      obtain ⟨A0, c0, rfl, hc0, _⟩ := own_form hrel2.2.1
      obtain ⟨A9, c9, rfl, hc9, _⟩ := own_form hrel2.2.2.1
      clear hrel2
      by_cases h1 : k < n1
      · obtain ⟨d, hd⟩ := get_some (xs := xd) (k := k) (by rw [HL1.out]; omega)
        obtain ⟨b, off, rfl, hbk, hcx⟩ := hr1.at_ (ints_get hd)
        have hcx1 := (hb.cell (p := ⟨b, off + k, none⟩) hbk).trans hcx
        have HX := Lib.hid hd
        have HB := Lib.hid hb
        have HG := Lib.hid hgp
        have hcp0 := blk_cell (i := 0) (u := .slice A0 l0.length c0) hgp rfl
        have hcp1 := blk_cell (i := 1) (u := .slice A9 l1.length c9) hgp rfl
        have hgl : w1.heap.size + 1 + 1 < wr.heap.size := (Array.getElem?_eq_some_iff.1 hgp).1
        have hbl : b < wr.heap.size := by omega
        clear hd hcx hb hgp
        rcases Nat.mod_two_eq_zero_or_one k with hk2 | hk2
        · have hk3 : (k : Int) % 2 = 0 := by omega
          have hl0' : l0.length ≤ 800 := by omega
          go_wp2_with fail
          go_region_law (refine step_app1h Try.eltI rfl (.tmp 34) (.tmp 39) rfl wr.drew _ (.int .i64 d) rfl w1.heap.size _ l0.length _ (by simp [Act.eval]) HR2.out.2.1.drew rfl (by simp [Act.eval]) (by simpa using hs6) (by omega) ?_; rintro A3 c3 w3 hown3 hg3 hk3'; have hgp3 := blk_keep HG.out HR2.out.2.1 (by decide) (grown_undrew hg3); have hcs := blk_cell (i := 0) (u := .slice A0 l0.length c0) hgp3 rfl; have hfs := blk_free (i := 0) hgp3; clear hgp3)
          all_goals
            go_wp2_with fail
            go_roundw
            case rel => exact ⟨k + 1, l0 ++ [d], l1, .slice A3 (l0.length + 1) c3, .slice A9 l1.length c9, by go_num, by omega, Lib.hid (unw_even HX.out hk2 HLL.out), by simp; omega, by omega, HR2.out.app0 hown3 (grown_undrew hg3) hk3'⟩
            case measure => simp [intOf]; omega
        · have hk3 : (k : Int) % 2 = 1 := by omega
          have hl1' : l1.length ≤ 800 := by omega
          go_wp2_with fail
          go_region_law (refine step_app1h Try.eltI rfl (.tmp 34) (.tmp 39) rfl wr.drew _ (.int .i64 d) rfl w1.heap.size _ l1.length _ (by simp [Act.eval]) HR2.out.2.2.1.drew rfl (by simp [Act.eval]) (by simpa using hs6) (by omega) ?_; rintro A3 c3 w3 hown3 hg3 hk3'; have hgp3 := blk_keep HG.out HR2.out.2.2.1 (by decide) (grown_undrew hg3); have hcs := blk_cell (i := 1) (u := .slice A9 l1.length c9) hgp3 rfl; have hfs := blk_free (i := 1) hgp3; clear hgp3)
          all_goals
            go_wp2_with fail
            go_roundw
            case rel => exact ⟨k + 1, l0, l1 ++ [d], .slice A0 l0.length c0, .slice A3 (l1.length + 1) c3, by go_num, by omega, Lib.hid (unw_odd HX.out hk2 HLL.out), by omega, by simp; omega, HR2.out.app1 hown3 (grown_undrew hg3) hk3'⟩
            case measure => simp [intOf]; omega
      · have hcp0 := blk_cell (i := 0) (u := .slice A0 l0.length c0) hgp rfl
        have hcp1 := blk_cell (i := 1) (u := .slice A9 l1.length c9) hgp rfl
        have HE0 : Hid (l0 = evs xd) := Lib.hid (by have h := HLL.out.1; rwa [List.take_of_length_le (by rw [HL1.out]; omega)] at h)
        have HE1 : Hid (l1 = ods xd) := Lib.hid (by have h := HLL.out.2; rwa [List.take_of_length_le (by rw [HL1.out]; omega)] at h)
        have hgl : w1.heap.size + 1 + 1 < wr.heap.size := (Array.getElem?_eq_some_iff.1 hgp).1
        have HBF := Lib.hid (hb1.trans (hb.mono hb1.size))
        clear hgp
        go_wp2_with fail
        refine (l02Join_any _ _ _ _ l0 (own_rd HR2.out.2.1) (by omega) 10 (by omega) (by omega) (by rw [HE0.out]; exact HIN.out.1)).mono ?_
        rw [show (10 : Int).toNat = 10 from rfl, show joinVal 10 l0 = unwA X by rw [HVA.out, HE0.out], (fit_yes HFIT.out.1).1, (fit_yes HFIT.out.1).2.1]
        rintro e w3 ⟨A3, n3, c3, rfl, ho3, hb3⟩
        have hcp1' := (hb3.cell (p := ⟨w1.heap.size + 1 + 1, 1, none⟩) hgl).trans hcp1
        have hr9 := (own_rd HR2.out.2.2.1).below hb3 (Nat.le_refl _)
        clear hcp0 hcp1
        go_wp2_with fail
        refine (l02Join_any _ _ _ _ l1 hr9 (by omega) 10 (by omega) (by omega) (by rw [HE1.out]; exact HIN.out.2)).mono ?_
        rw [show (10 : Int).toNat = 10 from rfl, show joinVal 10 l1 = unwB X by rw [HVB.out, HE1.out], (fit_yes HFIT.out.2).1, (fit_yes HFIT.out.2).2.1]
        rintro e w4 ⟨A4, n4, c4, rfl, ho4, hb4⟩
        go_wp2_with fail
        go_ret3
        rw [HF.out]
        refine ⟨A3, n3, c3, A4, n4, c4, rfl, own_base (own_below ho3 hb4 (Nat.le_refl _)) HBF.out.size, own_base ho4 (Nat.le_trans HBF.out.size hb3.size), ?_, (HBF.out.trans (hb3.mono HBF.out.size)).trans (hb4.mono (Nat.le_trans HBF.out.size hb3.size))⟩
        intro k h1 h2
        have := (ho3.lt k h1).2
        have := (ho4.lt k h2).1
        omega
  · have hN' : isNatB xs = false := by simpa using hN
    have HF := Lib.hid (unwNum_bad hN')
    clear hN
    go_enter Try.func29, Try.ntmps29
    go_wp2_with (go_at_call 62; refine (l02Is_any _ _ _ _ _ hr hn).mono ?_; rintro e w' ⟨rfl, rfl⟩)
    go_ret3
    rw [HF.out]
    exact ⟨none, 0, 0, none, 0, 0, rfl, own_nil _ _ _, own_nil _ _ _, by simp [Value.ownBlock], Below.refl _ _⟩

theorem dgNum_bad {xs : List Int} (h : isNatB xs = false) : dgNum xs 10 = ([], 1) := by simp [dgNum, h]

set_option maxHeartbeats 4000000 in
theorem implUnweaveNatural_any (w : World) (A : Option Addr) (n c : Nat) (xs : List Int) (hr : Rd w A n (ints xs)) (hn : n ≤ 1000000000) :
    Calls Try.prog 30 #[.slice A n c] w (RetSSI w 2 (ints (unwNum xs).1) (ints (unwNum xs).2.1) (unwNum xs).2.2) := by
  by_cases hN : isNatB xs = true
  · obtain ⟨X, rfl, hX⟩ := isNat_limbs hN
    have HF := Lib.hid (unwNum_ok hN)
    have HD1 := Lib.hid (dgNum_ten hN)
    have HDX : Hid ((digs 10 X).length ≤ 800) := Lib.hid (by have := digs_len_limbs (b := 10) (by omega) X; omega)
    clear hX hN
    go_enter Try.func30, Try.ntmps30
    go_wp2_with fail
    refine (digitsOf_any _ _ _ _ _ hr (by omega) 10).mono ?_
    rw [HD1.out]
    rintro e w1 ⟨A1, n1, c1, rfl, ho1, hb1⟩
    have hr1 := own_rd ho1
    have hl1 : (digs 10 X).length = n1 := by simpa using ho1.1
    have hn1 : n1 ≤ 800 := by have := HDX.out; omega
    have HVA : Hid (unwA X = joinVal 10 (evs (digs 10 X))) := Lib.hid rfl
    have HVB : Hid (unwB X = joinVal 10 (ods (digs 10 X))) := Lib.hid rfl
    have HIN := Lib.hid (evs_in (b := 10) (digs 10 X) (digs_in (b := 10) (by omega) X))
    have HL1 := Lib.hid hl1
    clear hl1 HDX ho1 hr HD1
    generalize digs 10 X = xd at hr1 HL1 HVA HVB HIN
    go_wp2_with fail
    go_loopw [21] (fun i wr => ∃ (k : Nat) (l0 l1 : List Int) (v0 v1 : Value), i = .int .i64 k ∧ k ≤ n1 ∧ Hid (l0 = evs (xd.take k) ∧ l1 = ods (xd.take k)) ∧ l0.length ≤ k ∧ l1.length ≤ k ∧ TwoRel w1.heap.size 2 55 w1.heap.size w1 l0 l1 v0 v1 wr) (fun i _ => n1 - (intOf i).toNat)
    case atStart =>
      refine ⟨0, [], [], .slice none 0 0, .slice none 0 0, rfl, by omega, Lib.hid ⟨rfl, rfl⟩, by simp, by simp, ?_⟩
      exact ⟨heap_alloc_new w1 _, own_nil _ _ _, own_nil _ _ _, by simp [Value.ownBlock], below_new _ _, by simp, by omega, by decide⟩
    case round =>
      obtain ⟨k, l0, l1, v0, v1, rfl, hk, HLL, hl0, hl1, hrel2⟩ := hrel
      have hgp := hrel2.1
      have hb := hrel2.2.2.2.2.1
      have hs6 := hrel2.2.2.2.2.2.1
      have HR2 := Lib.hid hrel2
      obtain ⟨A0, c0, rfl, hc0, _⟩ := own_form hrel2.2.1
      obtain ⟨A9, c9, rfl, hc9, _⟩ := own_form hrel2.2.2.1
      clear hrel2
      by_cases h1 : k < n1
      · obtain ⟨d, hd⟩ := get_some (xs := xd) (k := k) (by rw [HL1.out]; omega)
        obtain ⟨b, off, rfl, hbk, hcx⟩ := hr1.at_ (ints_get hd)
        have hcx1 := (hb.cell (p := ⟨b, off + k, none⟩) hbk).trans hcx
        have HX := Lib.hid hd
        have HB := Lib.hid hb
        have HG := Lib.hid hgp
        have hcp0 := blk_cell (i := 0) (u := .slice A0 l0.length c0) hgp rfl
        have hcp1 := blk_cell (i := 1) (u := .slice A9 l1.length c9) hgp rfl
        have hgl : w1.heap.size < wr.heap.size := (Array.getElem?_eq_some_iff.1 hgp).1
        clear hd hcx hb hgp
        rcases Nat.mod_two_eq_zero_or_one k with hk2 | hk2
        · have hk3 : (k : Int) % 2 = 0 := by omega
          have hl0' : l0.length ≤ 800 := by omega
          go_wp2_with (at_builtin; go_must (refine wpList_app1h Try.eltI rfl _ _ rfl wr (.int .i64 d) w1.heap.size _ l0.length _ (by rfl) HR2.out.2.1 (by rfl) (by rfl) (by omega) (by omega) ?_); rintro A3 c3 w3 hown3 hg3 hk3'; have hgp3 := blk_keep HG.out HR2.out.2.1 (by decide) hg3; have hcs := blk_cell (i := 0) (u := .slice A0 l0.length c0) hgp3 rfl; have hfs := blk_free (i := 0) hgp3; clear hgp3)
          go_roundw
          case rel => exact ⟨k + 1, l0 ++ [d], l1, .slice A3 (l0.length + 1) c3, .slice A9 l1.length c9, by go_num, by omega, Lib.hid (unw_even HX.out hk2 HLL.out), by simp; omega, by omega, HR2.out.app0 hown3 hg3 hk3'⟩
          case measure => simp [intOf]; omega
        · have hk3 : (k : Int) % 2 = 1 := by omega
          have hl1' : l1.length ≤ 800 := by omega
          go_wp2_with (at_builtin; go_must (refine wpList_app1h Try.eltI rfl _ _ rfl wr (.int .i64 d) w1.heap.size _ l1.length _ (by rfl) HR2.out.2.2.1 (by rfl) (by rfl) (by omega) (by omega) ?_); rintro A3 c3 w3 hown3 hg3 hk3'; have hgp3 := blk_keep HG.out HR2.out.2.2.1 (by decide) hg3; have hcs := blk_cell (i := 1) (u := .slice A9 l1.length c9) hgp3 rfl; have hfs := blk_free (i := 1) hgp3; clear hgp3)
          go_roundw
          case rel => exact ⟨k + 1, l0, l1 ++ [d], .slice A0 l0.length c0, .slice A3 (l1.length + 1) c3, by go_num, by omega, Lib.hid (unw_odd HX.out hk2 HLL.out), by omega, by simp; omega, HR2.out.app1 hown3 hg3 hk3'⟩
          case measure => simp [intOf]; omega
      · have hcp0 := blk_cell (i := 0) (u := .slice A0 l0.length c0) hgp rfl
        have hcp1 := blk_cell (i := 1) (u := .slice A9 l1.length c9) hgp rfl
        have HE0 : Hid (l0 = evs xd) := Lib.hid (by have h := HLL.out.1; rwa [List.take_of_length_le (by rw [HL1.out]; omega)] at h)
        have HE1 : Hid (l1 = ods xd) := Lib.hid (by have h := HLL.out.2; rwa [List.take_of_length_le (by rw [HL1.out]; omega)] at h)
        have hgl : w1.heap.size < wr.heap.size := (Array.getElem?_eq_some_iff.1 hgp).1
        have HBF := Lib.hid (hb1.trans (hb.mono hb1.size))
        have hr0 := own_rd HR2.out.2.1
        have hr9 := own_rd HR2.out.2.2.1
        clear hgp
        go_wp2_with fail
        go_region_held3 (fun w' => w'.cell? ⟨w1.heap.size, 0, none⟩ = some (.slice A0 l0.length c0) ∧ w'.cell? ⟨w1.heap.size, 1, none⟩ = some (.slice A9 l1.length c9)) (exact ⟨hcp0, hcp1⟩)
          (first
            | (go_at_call_of 61 (Value.slice A0 l0.length c0); refine (fromDigits_any _ _ _ _ l0 (by exact hr0) (by omega) 10 (by omega) (by omega) (by rw [HE0.out]; exact HIN.out.1)).mono ?_; rintro e w3 ⟨A3, n3, c3, rfl, ho3, hb3⟩; (try replace hb3 := below_undrew hb3); have hcp0 := (hb3.cell (p := ⟨w1.heap.size, 0, none⟩) hgl).trans hcp0; have hcp1 := (hb3.cell (p := ⟨w1.heap.size, 1, none⟩) hgl).trans hcp1; have hgl := Nat.lt_of_lt_of_le hgl hb3.size; have hr9 := hr9.below hb3 (Nat.le_refl _))
            | (go_at_call_of 61 (Value.slice A9 l1.length c9); refine (fromDigits_any _ _ _ _ l1 hr9 (by omega) 10 (by omega) (by omega) (by rw [HE1.out]; exact HIN.out.2)).mono ?_; rintro e w4 ⟨A4, n4, c4, rfl, ho4, hb4⟩; have hcp0 := (hb4.cell (p := ⟨w1.heap.size, 0, none⟩) hgl).trans hcp0; have hcp1 := (hb4.cell (p := ⟨w1.heap.size, 1, none⟩) hgl).trans hcp1))
        go_wp2_with fail
        go_ret3
        rw [HF.out, HVA.out, HVB.out, ← HE0.out, ← HE1.out]
        refine ⟨A3, n3, c3, A4, n4, c4, rfl, own_base (own_below ho3 hb4 (Nat.le_refl _)) HBF.out.size, own_base ho4 (Nat.le_trans HBF.out.size hb3.size), ?_, (HBF.out.trans (hb3.mono HBF.out.size)).trans (hb4.mono (Nat.le_trans HBF.out.size hb3.size))⟩
        intro k h1 h2
        have := (ho3.lt k h1).2
        have := (ho4.lt k h2).1
        omega
  · have hN' : isNatB xs = false := by simpa using hN
    have HF := Lib.hid (unwNum_bad hN')
    have HD1 := Lib.hid (dgNum_bad hN')
    clear hN
    go_enter Try.func30, Try.ntmps30
    go_wp2_with fail
    refine (digitsOf_any _ _ _ _ _ hr (by omega) 10).mono ?_
    rw [HD1.out]
    rintro e w1 ⟨A1, n1, c1, rfl, ho1, hb1⟩
    go_wp2_with fail
    go_ret3
    rw [HF.out]
    exact ⟨none, 0, 0, none, 0, 0, rfl, own_nil _ _ _, own_nil _ _ _, by simp [Value.ownBlock], hb1⟩
set_option maxHeartbeats 4000000 in
set_option maxRecDepth 100000 in
theorem lawUnweaveNatural (w : World) (A0 : Option Addr) (n0 c0 : Nat) (x0 : List Int) (hr0 : Rd w A0 n0 (ints x0)) :
    Calls Try.prog 8 #[.slice A0 n0 c0] w fun e w' => e = .returned (.bool true) ∧ Below w.heap.size w w' := by
  by_cases hbig0 : n0 ≤ 1048576
  rotate_left
  · go_enter Try.func8, Try.ntmps8
    go_wp2_with fail
    go_ret
    exact ⟨rfl, Below.refl _ _⟩
  have hS : ∀ (w : World) (A0 : Option Addr) (n0 c0 : Nat) (h0 : Rd w A0 n0 (ints x0)) (hn0 : n0 ≤ 1000000000), Calls Try.prog 29 #[.slice A0 n0 c0] w (RetSSI w 2 (ints ((unwNum x0).1)) (ints ((unwNum x0).2.1)) ((unwNum x0).2.2)) := fun w A0 n0 c0 h0 hn0 => specUnweaveNatural_any w A0 n0 c0 x0 h0 (by omega)
  have hI : ∀ (w : World) (A0 : Option Addr) (n0 c0 : Nat) (h0 : Rd w A0 n0 (ints x0)) (hn0 : n0 ≤ 1000000000), Calls Try.prog 30 #[.slice A0 n0 c0] w (RetSSI w 2 (ints ((unwNum x0).1)) (ints ((unwNum x0).2.1)) ((unwNum x0).2.2)) := fun w A0 n0 c0 h0 hn0 => implUnweaveNatural_any w A0 n0 c0 x0 h0 (by omega)
  have HRL0 : Hid (((unwNum x0).1).length ≤ 1000000) := Lib.hid ((unwNum_len _).1)
  have HRL1 : Hid (((unwNum x0).2.1).length ≤ 1000000) := Lib.hid ((unwNum_len _).2)
  have HS := Lib.hid hS; have HI := Lib.hid hI
  clear hS hI
  generalize (unwNum x0).1 = r0 at HS HI HRL0
  generalize (unwNum x0).2.1 = r1 at HS HI HRL1
  generalize (unwNum x0).2.2 = r2 at HS HI
  have HXL0 : Hid (x0.length = n0) := Lib.hid (by simpa using hr0.1)
  have HB := Below.refl w.heap.size w
  go_enter Try.func8, Try.ntmps8
  go_wp2_with fail
  refine (toInt64S_any _ _ _ _ x0 (hr0.below HB (Nat.le_refl _)) (by omega)).mono ?_
  rintro e v1 ⟨Ao1, no1, co1, rfl, hoo1, hbv1⟩
  have hno1 : no1 ≤ 1048576 := by have := hoo1.1; simp at this; have := HXL0.out; omega
  replace HB := HB.trans (hbv1.mono HB.size)
  have hrgo1 : Hid (∀ k, (Value.slice Ao1 no1 co1).ownBlock = some k → w.heap.size ≤ k ∧ k < v1.heap.size) := Lib.hid fun k hk => hoo1.lt k hk
  have hszv1 := hbv1.size
  go_wp2_with fail
  refine (HS.out _ _ _ _ (own_rd hoo1) (by omega)).mono ?_
  rintro e v2 ⟨Ao2, no2, co2, Ao3, no3, co3, rfl, hoo2, hoo3, hdiso2, hbv2⟩
  have hno2 : no2 ≤ 1000000 := by have := hoo2.1; simp at this; have := HRL0.out; omega
  have hno3 : no3 ≤ 1000000 := by have := hoo3.1; simp at this; have := HRL1.out; omega
  have HDISo2 := Lib.hid hdiso2; clear hdiso2
  replace hoo1 := own_below hoo1 hbv2 (Nat.le_refl _)
  replace HB := HB.trans (hbv2.mono HB.size)
  have hrgo2 : Hid (∀ k, (Value.slice Ao2 no2 co2).ownBlock = some k → v1.heap.size ≤ k ∧ k < v2.heap.size) := Lib.hid fun k hk => hoo2.lt k hk
  have hrgo3 : Hid (∀ k, (Value.slice Ao3 no3 co3).ownBlock = some k → v1.heap.size ≤ k ∧ k < v2.heap.size) := Lib.hid fun k hk => hoo3.lt k hk
  have hszv2 := hbv2.size
  go_wp2_with fail
  refine (toInt64S_any _ _ _ _ x0 (hr0.below HB (Nat.le_refl _)) (by omega)).mono ?_
  rintro e v3 ⟨Ao4, no4, co4, rfl, hoo4, hbv3⟩
  have hno4 : no4 ≤ 1048576 := by have := hoo4.1; simp at this; have := HXL0.out; omega
  replace hoo1 := own_below hoo1 hbv3 (Nat.le_refl _)
  replace hoo2 := own_below hoo2 hbv3 (Nat.le_refl _)
  replace hoo3 := own_below hoo3 hbv3 (Nat.le_refl _)
  replace HB := HB.trans (hbv3.mono HB.size)
  have hrgo4 : Hid (∀ k, (Value.slice Ao4 no4 co4).ownBlock = some k → v2.heap.size ≤ k ∧ k < v3.heap.size) := Lib.hid fun k hk => hoo4.lt k hk
  have hszv3 := hbv3.size
  go_wp2_with fail
  refine (HI.out _ _ _ _ (own_rd hoo4) (by omega)).mono ?_
  rintro e v4 ⟨Ao5, no5, co5, Ao6, no6, co6, rfl, hoo5, hoo6, hdiso5, hbv4⟩
  have hno5 : no5 ≤ 1000000 := by have := hoo5.1; simp at this; have := HRL0.out; omega
  have hno6 : no6 ≤ 1000000 := by have := hoo6.1; simp at this; have := HRL1.out; omega
  have HDISo5 := Lib.hid hdiso5; clear hdiso5
  replace hoo1 := own_below hoo1 hbv4 (Nat.le_refl _)
  replace hoo2 := own_below hoo2 hbv4 (Nat.le_refl _)
  replace hoo3 := own_below hoo3 hbv4 (Nat.le_refl _)
  replace hoo4 := own_below hoo4 hbv4 (Nat.le_refl _)
  replace HB := HB.trans (hbv4.mono HB.size)
  have hrgo5 : Hid (∀ k, (Value.slice Ao5 no5 co5).ownBlock = some k → v3.heap.size ≤ k ∧ k < v4.heap.size) := Lib.hid fun k hk => hoo5.lt k hk
  have hrgo6 : Hid (∀ k, (Value.slice Ao6 no6 co6).ownBlock = some k → v3.heap.size ≤ k ∧ k < v4.heap.size) := Lib.hid fun k hk => hoo6.lt k hk
  have hszv4 := hbv4.size
  go_wp2_with fail
  refine (eq_same _ _ _ _ _ (own_rd hoo5) (by omega) _ _ _ (own_rd hoo2)).mono ?_
  rintro e v5 ⟨rfl, hbv5⟩
  replace hoo1 := own_below hoo1 hbv5 (Nat.le_refl _)
  replace hoo2 := own_below hoo2 hbv5 (Nat.le_refl _)
  replace hoo3 := own_below hoo3 hbv5 (Nat.le_refl _)
  replace hoo4 := own_below hoo4 hbv5 (Nat.le_refl _)
  replace hoo5 := own_below hoo5 hbv5 (Nat.le_refl _)
  replace hoo6 := own_below hoo6 hbv5 (Nat.le_refl _)
  replace HB := HB.trans (hbv5.mono HB.size)
  have hszv5 := hbv5.size
  go_wp2_with fail
  refine (eq_same _ _ _ _ _ (own_rd hoo6) (by omega) _ _ _ (own_rd hoo3)).mono ?_
  rintro e v6 ⟨rfl, hbv6⟩
  replace hoo1 := own_below hoo1 hbv6 (Nat.le_refl _)
  replace hoo2 := own_below hoo2 hbv6 (Nat.le_refl _)
  replace hoo3 := own_below hoo3 hbv6 (Nat.le_refl _)
  replace hoo4 := own_below hoo4 hbv6 (Nat.le_refl _)
  replace hoo5 := own_below hoo5 hbv6 (Nat.le_refl _)
  replace hoo6 := own_below hoo6 hbv6 (Nat.le_refl _)
  replace HB := HB.trans (hbv6.mono HB.size)
  have hszv6 := hbv6.size
  go_wp2_with fail
  refine (toInt64S_any _ _ _ _ x0 (hr0.below HB (Nat.le_refl _)) (by omega)).mono ?_
  rintro e v7 ⟨Ao7, no7, co7, rfl, hoo7, hbv7⟩
  have hno7 : no7 ≤ 1048576 := by have := hoo7.1; simp at this; have := HXL0.out; omega
  replace hoo1 := own_below hoo1 hbv7 (Nat.le_refl _)
  replace hoo2 := own_below hoo2 hbv7 (Nat.le_refl _)
  replace hoo3 := own_below hoo3 hbv7 (Nat.le_refl _)
  replace hoo4 := own_below hoo4 hbv7 (Nat.le_refl _)
  replace hoo5 := own_below hoo5 hbv7 (Nat.le_refl _)
  replace hoo6 := own_below hoo6 hbv7 (Nat.le_refl _)
  replace HB := HB.trans (hbv7.mono HB.size)
  have hrgo7 : Hid (∀ k, (Value.slice Ao7 no7 co7).ownBlock = some k → v6.heap.size ≤ k ∧ k < v7.heap.size) := Lib.hid fun k hk => hoo7.lt k hk
  have hszv7 := hbv7.size
  go_wp2_with fail
  refine (eq_same _ _ _ _ _ (own_rd hoo4) (by omega) _ _ _ (own_rd hoo7)).mono ?_
  rintro e v8 ⟨rfl, hbv8⟩
  replace hoo1 := own_below hoo1 hbv8 (Nat.le_refl _)
  replace hoo2 := own_below hoo2 hbv8 (Nat.le_refl _)
  replace hoo3 := own_below hoo3 hbv8 (Nat.le_refl _)
  replace hoo4 := own_below hoo4 hbv8 (Nat.le_refl _)
  replace hoo5 := own_below hoo5 hbv8 (Nat.le_refl _)
  replace hoo6 := own_below hoo6 hbv8 (Nat.le_refl _)
  replace hoo7 := own_below hoo7 hbv8 (Nat.le_refl _)
  replace HB := HB.trans (hbv8.mono HB.size)
  have hszv8 := hbv8.size
  go_wp2_with fail
  refine (markInt64S_any _ _ _ _ _ _ hoo4 (by omega) (1) (by omega) (by omega)).mono ?_
  rintro e v9 ⟨rfl, hmo4, hgv9⟩
  replace hoo1 := mark_keep hoo1 hgv9 (fun k h1 h2 => by have := hrgo1.out k h1; have := hrgo4.out k h2; omega)
  replace hoo2 := mark_keep hoo2 hgv9 (fun k h1 h2 => by have := hrgo2.out k h1; have := hrgo4.out k h2; omega)
  replace hoo3 := mark_keep hoo3 hgv9 (fun k h1 h2 => by have := hrgo3.out k h1; have := hrgo4.out k h2; omega)
  replace hoo5 := mark_keep hoo5 hgv9 (fun k h1 h2 => by have := hrgo5.out k h1; have := hrgo4.out k h2; omega)
  replace hoo6 := mark_keep hoo6 hgv9 (fun k h1 h2 => by have := hrgo6.out k h1; have := hrgo4.out k h2; omega)
  replace hoo7 := mark_keep hoo7 hgv9 (fun k h1 h2 => by have := hrgo7.out k h1; have := hrgo4.out k h2; omega)
  replace HB := HB.grown hgv9 HB.size (fun k hk => by have := hrgo4.out k hk; omega)
  replace hoo4 := hmo4
  have hszv9 := hgv9.size
  go_wp2_with fail
  refine (eq_same _ _ _ _ _ (own_rd hoo5) (by omega) _ _ _ (own_rd hoo2)).mono ?_
  rintro e v10 ⟨rfl, hbv10⟩
  replace hoo1 := own_below hoo1 hbv10 (Nat.le_refl _)
  replace hoo2 := own_below hoo2 hbv10 (Nat.le_refl _)
  replace hoo3 := own_below hoo3 hbv10 (Nat.le_refl _)
  replace hoo4 := own_below hoo4 hbv10 (Nat.le_refl _)
  replace hoo5 := own_below hoo5 hbv10 (Nat.le_refl _)
  replace hoo6 := own_below hoo6 hbv10 (Nat.le_refl _)
  replace hoo7 := own_below hoo7 hbv10 (Nat.le_refl _)
  replace HB := HB.trans (hbv10.mono HB.size)
  have hszv10 := hbv10.size
  go_wp2_with fail
  refine (eq_same _ _ _ _ _ (own_rd hoo6) (by omega) _ _ _ (own_rd hoo3)).mono ?_
  rintro e v11 ⟨rfl, hbv11⟩
  replace hoo1 := own_below hoo1 hbv11 (Nat.le_refl _)
  replace hoo2 := own_below hoo2 hbv11 (Nat.le_refl _)
  replace hoo3 := own_below hoo3 hbv11 (Nat.le_refl _)
  replace hoo4 := own_below hoo4 hbv11 (Nat.le_refl _)
  replace hoo5 := own_below hoo5 hbv11 (Nat.le_refl _)
  replace hoo6 := own_below hoo6 hbv11 (Nat.le_refl _)
  replace hoo7 := own_below hoo7 hbv11 (Nat.le_refl _)
  replace HB := HB.trans (hbv11.mono HB.size)
  have hszv11 := hbv11.size
  go_wp2_with fail
  refine (markInt64S_any _ _ _ _ _ _ hoo5 (by omega) (1) (by omega) (by omega)).mono ?_
  rintro e v12 ⟨rfl, hmo5, hgv12⟩
  replace hoo1 := mark_keep hoo1 hgv12 (fun k h1 h2 => by have := hrgo1.out k h1; have := hrgo5.out k h2; omega)
  replace hoo2 := mark_keep hoo2 hgv12 (fun k h1 h2 => by have := hrgo2.out k h1; have := hrgo5.out k h2; omega)
  replace hoo3 := mark_keep hoo3 hgv12 (fun k h1 h2 => by have := hrgo3.out k h1; have := hrgo5.out k h2; omega)
  replace hoo4 := mark_keep hoo4 hgv12 (fun k h1 h2 => by have := hrgo4.out k h1; have := hrgo5.out k h2; omega)
  replace hoo6 := mark_keep hoo6 hgv12 (fun k h1 h2 => by exact HDISo5.out k h2 h1)
  replace hoo7 := mark_keep hoo7 hgv12 (fun k h1 h2 => by have := hrgo7.out k h1; have := hrgo5.out k h2; omega)
  replace HB := HB.grown hgv12 HB.size (fun k hk => by have := hrgo5.out k hk; omega)
  replace hoo5 := hmo5
  have hszv12 := hgv12.size
  go_wp2_with fail
  refine (markInt64S_any _ _ _ _ _ _ hoo6 (by omega) (1 + (no5 : Int)) (by omega) (by omega)).mono ?_
  rintro e v13 ⟨rfl, hmo6, hgv13⟩
  replace hoo1 := mark_keep hoo1 hgv13 (fun k h1 h2 => by have := hrgo1.out k h1; have := hrgo6.out k h2; omega)
  replace hoo2 := mark_keep hoo2 hgv13 (fun k h1 h2 => by have := hrgo2.out k h1; have := hrgo6.out k h2; omega)
  replace hoo3 := mark_keep hoo3 hgv13 (fun k h1 h2 => by have := hrgo3.out k h1; have := hrgo6.out k h2; omega)
  replace hoo4 := mark_keep hoo4 hgv13 (fun k h1 h2 => by have := hrgo4.out k h1; have := hrgo6.out k h2; omega)
  replace hoo5 := mark_keep hoo5 hgv13 (fun k h1 h2 => by exact HDISo5.out k h1 h2)
  replace hoo7 := mark_keep hoo7 hgv13 (fun k h1 h2 => by have := hrgo7.out k h1; have := hrgo6.out k h2; omega)
  replace HB := HB.grown hgv13 HB.size (fun k hk => by have := hrgo6.out k hk; omega)
  replace hoo6 := hmo6
  have hszv13 := hgv13.size
  go_wp2_with fail
  refine (heldInt64S_any _ _ _ _ (1) (own_rd hoo5) (by omega) (by omega) (by omega)).mono ?_
  rintro e v14 ⟨rfl, hbv14⟩
  replace hoo1 := own_below hoo1 hbv14 (Nat.le_refl _)
  replace hoo2 := own_below hoo2 hbv14 (Nat.le_refl _)
  replace hoo3 := own_below hoo3 hbv14 (Nat.le_refl _)
  replace hoo4 := own_below hoo4 hbv14 (Nat.le_refl _)
  replace hoo5 := own_below hoo5 hbv14 (Nat.le_refl _)
  replace hoo6 := own_below hoo6 hbv14 (Nat.le_refl _)
  replace hoo7 := own_below hoo7 hbv14 (Nat.le_refl _)
  replace HB := HB.trans (hbv14.mono HB.size)
  have hszv14 := hbv14.size
  go_wp2_with fail
  refine (heldInt64S_any _ _ _ _ (1 + (no5 : Int)) (own_rd hoo6) (by omega) (by omega) (by omega)).mono ?_
  rintro e v15 ⟨rfl, hbv15⟩
  replace hoo1 := own_below hoo1 hbv15 (Nat.le_refl _)
  replace hoo2 := own_below hoo2 hbv15 (Nat.le_refl _)
  replace hoo3 := own_below hoo3 hbv15 (Nat.le_refl _)
  replace hoo4 := own_below hoo4 hbv15 (Nat.le_refl _)
  replace hoo5 := own_below hoo5 hbv15 (Nat.le_refl _)
  replace hoo6 := own_below hoo6 hbv15 (Nat.le_refl _)
  replace hoo7 := own_below hoo7 hbv15 (Nat.le_refl _)
  replace HB := HB.trans (hbv15.mono HB.size)
  have hszv15 := hbv15.size
  go_wp2_with fail
  refine (toInt64S_any _ _ _ _ x0 (hr0.below HB (Nat.le_refl _)) (by omega)).mono ?_
  rintro e v16 ⟨Ao8, no8, co8, rfl, hoo8, hbv16⟩
  have hno8 : no8 ≤ 1048576 := by have := hoo8.1; simp at this; have := HXL0.out; omega
  replace hoo1 := own_below hoo1 hbv16 (Nat.le_refl _)
  replace hoo2 := own_below hoo2 hbv16 (Nat.le_refl _)
  replace hoo3 := own_below hoo3 hbv16 (Nat.le_refl _)
  replace hoo4 := own_below hoo4 hbv16 (Nat.le_refl _)
  replace hoo5 := own_below hoo5 hbv16 (Nat.le_refl _)
  replace hoo6 := own_below hoo6 hbv16 (Nat.le_refl _)
  replace hoo7 := own_below hoo7 hbv16 (Nat.le_refl _)
  replace HB := HB.trans (hbv16.mono HB.size)
  have hrgo8 : Hid (∀ k, (Value.slice Ao8 no8 co8).ownBlock = some k → v15.heap.size ≤ k ∧ k < v16.heap.size) := Lib.hid fun k hk => hoo8.lt k hk
  have hszv16 := hbv16.size
  go_wp2_with fail
  refine (HI.out _ _ _ _ (own_rd hoo8) (by omega)).mono ?_
  rintro e v17 ⟨Ao9, no9, co9, Ao10, no10, co10, rfl, hoo9, hoo10, hdiso9, hbv17⟩
  have hno9 : no9 ≤ 1000000 := by have := hoo9.1; simp at this; have := HRL0.out; omega
  have hno10 : no10 ≤ 1000000 := by have := hoo10.1; simp at this; have := HRL1.out; omega
  have HDISo9 := Lib.hid hdiso9; clear hdiso9
  replace hoo1 := own_below hoo1 hbv17 (Nat.le_refl _)
  replace hoo2 := own_below hoo2 hbv17 (Nat.le_refl _)
  replace hoo3 := own_below hoo3 hbv17 (Nat.le_refl _)
  replace hoo4 := own_below hoo4 hbv17 (Nat.le_refl _)
  replace hoo5 := own_below hoo5 hbv17 (Nat.le_refl _)
  replace hoo6 := own_below hoo6 hbv17 (Nat.le_refl _)
  replace hoo7 := own_below hoo7 hbv17 (Nat.le_refl _)
  replace hoo8 := own_below hoo8 hbv17 (Nat.le_refl _)
  replace HB := HB.trans (hbv17.mono HB.size)
  have hrgo9 : Hid (∀ k, (Value.slice Ao9 no9 co9).ownBlock = some k → v16.heap.size ≤ k ∧ k < v17.heap.size) := Lib.hid fun k hk => hoo9.lt k hk
  have hrgo10 : Hid (∀ k, (Value.slice Ao10 no10 co10).ownBlock = some k → v16.heap.size ≤ k ∧ k < v17.heap.size) := Lib.hid fun k hk => hoo10.lt k hk
  have hszv17 := hbv17.size
  go_wp2_with fail
  refine (eq_same _ _ _ _ _ (own_rd hoo9) (by omega) _ _ _ (own_rd hoo2)).mono ?_
  rintro e v18 ⟨rfl, hbv18⟩
  replace hoo1 := own_below hoo1 hbv18 (Nat.le_refl _)
  replace hoo2 := own_below hoo2 hbv18 (Nat.le_refl _)
  replace hoo3 := own_below hoo3 hbv18 (Nat.le_refl _)
  replace hoo4 := own_below hoo4 hbv18 (Nat.le_refl _)
  replace hoo5 := own_below hoo5 hbv18 (Nat.le_refl _)
  replace hoo6 := own_below hoo6 hbv18 (Nat.le_refl _)
  replace hoo7 := own_below hoo7 hbv18 (Nat.le_refl _)
  replace hoo8 := own_below hoo8 hbv18 (Nat.le_refl _)
  replace hoo9 := own_below hoo9 hbv18 (Nat.le_refl _)
  replace hoo10 := own_below hoo10 hbv18 (Nat.le_refl _)
  replace HB := HB.trans (hbv18.mono HB.size)
  have hszv18 := hbv18.size
  go_wp2_with fail
  refine (eq_same _ _ _ _ _ (own_rd hoo10) (by omega) _ _ _ (own_rd hoo3)).mono ?_
  rintro e v19 ⟨rfl, hbv19⟩
  replace hoo1 := own_below hoo1 hbv19 (Nat.le_refl _)
  replace hoo2 := own_below hoo2 hbv19 (Nat.le_refl _)
  replace hoo3 := own_below hoo3 hbv19 (Nat.le_refl _)
  replace hoo4 := own_below hoo4 hbv19 (Nat.le_refl _)
  replace hoo5 := own_below hoo5 hbv19 (Nat.le_refl _)
  replace hoo6 := own_below hoo6 hbv19 (Nat.le_refl _)
  replace hoo7 := own_below hoo7 hbv19 (Nat.le_refl _)
  replace hoo8 := own_below hoo8 hbv19 (Nat.le_refl _)
  replace hoo9 := own_below hoo9 hbv19 (Nat.le_refl _)
  replace hoo10 := own_below hoo10 hbv19 (Nat.le_refl _)
  replace HB := HB.trans (hbv19.mono HB.size)
  have hszv19 := hbv19.size
  go_wp2_with fail
  refine (heldInt64S_any _ _ _ _ (1) (own_rd hoo5) (by omega) (by omega) (by omega)).mono ?_
  rintro e v20 ⟨rfl, hbv20⟩
  replace hoo1 := own_below hoo1 hbv20 (Nat.le_refl _)
  replace hoo2 := own_below hoo2 hbv20 (Nat.le_refl _)
  replace hoo3 := own_below hoo3 hbv20 (Nat.le_refl _)
  replace hoo4 := own_below hoo4 hbv20 (Nat.le_refl _)
  replace hoo5 := own_below hoo5 hbv20 (Nat.le_refl _)
  replace hoo6 := own_below hoo6 hbv20 (Nat.le_refl _)
  replace hoo7 := own_below hoo7 hbv20 (Nat.le_refl _)
  replace hoo8 := own_below hoo8 hbv20 (Nat.le_refl _)
  replace hoo9 := own_below hoo9 hbv20 (Nat.le_refl _)
  replace hoo10 := own_below hoo10 hbv20 (Nat.le_refl _)
  replace HB := HB.trans (hbv20.mono HB.size)
  have hszv20 := hbv20.size
  go_wp2_with fail
  refine (heldInt64S_any _ _ _ _ (1 + (no5 : Int)) (own_rd hoo6) (by omega) (by omega) (by omega)).mono ?_
  rintro e v21 ⟨rfl, hbv21⟩
  replace hoo1 := own_below hoo1 hbv21 (Nat.le_refl _)
  replace hoo2 := own_below hoo2 hbv21 (Nat.le_refl _)
  replace hoo3 := own_below hoo3 hbv21 (Nat.le_refl _)
  replace hoo4 := own_below hoo4 hbv21 (Nat.le_refl _)
  replace hoo5 := own_below hoo5 hbv21 (Nat.le_refl _)
  replace hoo6 := own_below hoo6 hbv21 (Nat.le_refl _)
  replace hoo7 := own_below hoo7 hbv21 (Nat.le_refl _)
  replace hoo8 := own_below hoo8 hbv21 (Nat.le_refl _)
  replace hoo9 := own_below hoo9 hbv21 (Nat.le_refl _)
  replace hoo10 := own_below hoo10 hbv21 (Nat.le_refl _)
  replace HB := HB.trans (hbv21.mono HB.size)
  have hszv21 := hbv21.size
  go_wp2_with fail
  go_ret
  exact ⟨rfl, HB⟩
end Go.Proofs.Ytdpkcnjoklnoeaa
