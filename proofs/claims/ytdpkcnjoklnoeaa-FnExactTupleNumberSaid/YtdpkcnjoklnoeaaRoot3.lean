/- Square roots: the reference's l02Root; unpairing. -/
import Derived.Test.YtdpkcnjoklnoeaaRoot2
namespace Go.Proofs.Ytdpkcnjoklnoeaa
open Go.RowKit Limb

set_option maxHeartbeats 400000 in
theorem l00Own_any (w : World) (A : Option Addr) (n c : Nat) (xs : List Int) (hr : Rd w A n (ints xs)) (hn : n ≤ 1000000000) :
    Calls Try.prog 78 #[.slice A n c] w (RetS w 2 (ints xs)) := by
  have hown := own_lit w #[] 0 2 rfl (by omega)
  go_enter Try.func78, Try.ntmps78
  go_wp2_with (at_builtin; go_must (refine wpList_appS Try.eltI rfl _ _ rfl (w.alloc (.cells #[] 2)) w.heap.size _ 0 _ (by rfl) hown _ n c (ints xs) (by rfl) (hr.alloc _) ints_one (by simp) (by omega) ?_); rintro A1 c1 w1 hown1 hb1)
  go_ret
  simp only [Nat.zero_add, List.nil_append] at hown1
  exact ⟨A1, n, c1, rfl, hown1, (below_new _ _).trans hb1⟩

theorem set_self {ds : List Int} {k : Nat} (hk : k < ds.length) (h : ds[k]?.getD 0 = 0) : ds.set k 0 = ds := by
  have e : ds[k]? = some 0 := by rw [List.getElem?_eq_getElem hk] at h ⊢; simpa using h
  apply List.ext_getElem?
  intro i
  rw [List.getElem?_set]
  split
  · subst_vars; rw [e]
  · rfl

set_option maxHeartbeats 4000000 in
theorem l02Root_any (w : World) (A : Option Addr) (n c N : Nat) (hr : Rd w A n (ints (limbs N))) (hn : n ≤ 100000) :
    Calls Try.prog 90 #[.slice A n c] w (RetS w 2 (ints (limbs (isqrt N)))) := by
  have HL : Hid ((limbs N).length = n) := Lib.hid (by simpa using hr.1)
  obtain ⟨L, hL⟩ : ∃ L : Nat, L = (n + 1) / 2 := ⟨_, rfl⟩
  have HLL := Lib.hid hL
  have hLb : L ≤ 100000 := by omega
  have HR0 := Lib.hid (RootRel.start (N := N) (L := L) (by rw [HL.out]; omega))
  have hq : ((n : Int) + 1) / 2 = (L : Int) := by omega
  clear hL
  go_enter Try.func90, Try.ntmps90
  go_wp2_with (at_make; go_must (refine wpList_mk Try.eltI rfl _ _ rfl w _ _ L (by rfl) (by rfl) (by omega) (by omega) (by omega) ?_); rintro w1 hown1 hb1 hs1)
  rw [show List.replicate L (Value.int .i64 0) = ints (List.replicate L 0) by simp only [ints, List.map_replicate]] at hown1
  go_loopw [4] (fun i wr => ∃ (j : Nat) (ds : List Int), i = .int .i64 ((j : Int) - 1) ∧ j ≤ L ∧ Hid (RootRel N j ds ∧ ds.length = L) ∧ wr.ownsRow w.heap.size 2 1 (.slice (some ⟨w.heap.size, 0, none⟩) L L) L (ints ds) ∧ Below w.heap.size w wr) (fun i _ => (intOf i + 1).toNat)
  case atStart => exact ⟨L, List.replicate L 0, rfl, by omega, Lib.hid ⟨HR0.out, List.length_replicate⟩, hown1, hb1⟩
  case round =>
    obtain ⟨j, ds, rfl, hj, HRL, hown, hb⟩ := hrel
    clear hown1 hb1 hs1
    rcases Nat.eq_zero_or_pos j with h0 | h0
    · subst h0
      go_wp2_with (go_at_call 83; refine (l02Trim_any _ w.heap.size _ L L _ hown (by omega)).mono ?_; rintro e w2 ⟨rfl, rfl⟩)
      go_ret
      have ho := own_trim hown
      rw [HRL.out.1.done] at ho
      have hl : (trim ds).length = (limbs (isqrt N)).length := by rw [HRL.out.1.done]
      exact ⟨_, _, L, by rw [hl]; rfl, ho, hb⟩
    · obtain ⟨k, rfl⟩ : ∃ k, j = k + 1 := ⟨j - 1, by omega⟩
      have ek : (((k + 1 : Nat) : Int) - 1) = (k : Int) := by omega
      rw [ek]
      clear ek
      have hkL : k < L := by omega
      have HSELF : Hid (ds.set k 0 = ds) := Lib.hid (set_self (by rw [HRL.out.2]; omega) (HRL.out.1.2.1 k (by omega)))
      have HOWN := Lib.hid hown
      have HB := Lib.hid hb
      clear hown hb
      obtain ⟨wo, rfl⟩ : ∃ wo : World, wo = wr := ⟨_, rfl⟩
      go_wp2_with fail
      go_loopw [5, 6] (fun l h wr => ∃ lo hi m : Int, l = .int .i64 lo ∧ h = .int .i64 hi ∧ 0 ≤ lo ∧ lo ≤ hi ∧ hi ≤ 999999 ∧ Hid (sqB N k ds lo = true ∧ sqB N k ds (hi + 1) = false) ∧ wr.ownsRow w.heap.size 2 1 (.slice (some ⟨w.heap.size, 0, none⟩) L L) L (ints (ds.set k m)) ∧ Below w.heap.size w wr) (fun l h _ => (intOf h - intOf l).toNat)
      case atStart => exact ⟨0, 999999, 0, rfl, rfl, by omega, by omega, by omega, Lib.hid ⟨sqB_true.2 HRL.out.1.zero, sqB_false.2 HRL.out.1.top⟩, by rw [HSELF.out]; exact HOWN.out, HB.out⟩
      case round =>
        obtain ⟨lo, hi, m, rfl, rfl, hl0, hlh, hh, HP, hown, hb⟩ := hrel
        clear HOWN HB
        obtain ⟨y, hy⟩ := get_some (xs := ds.set k m) (k := k) (by simp; rw [HRL.out.2]; omega)
        obtain ⟨g, hg, hgb, hgs, hc2, hc3⟩ := own_get hown (ints_get hy)
        obtain rfl : w.heap.size = g := by simpa using hg
        clear hy hg
        by_cases hlt : lo < hi
        · have ho2 := own_put hown k (.int .i64 ((lo + hi + 1) / 2))
          rw [ints_set, List.set_set] at ho2
          have HO2 := Lib.hid ho2
          have HB2 := Lib.hid (hb.setCell (p := ⟨w.heap.size, k, none⟩) (Nat.le_refl _) (.int .i64 ((lo + hi + 1) / 2)))
          have HT := Lib.hid (trim_try HRL.out.1 (d := (lo + hi + 1) / 2) (by omega) (by omega))
          clear hown hb ho2
          go_wp2_with fail
          refine (l00Own_any _ _ _ _ _ (own_rd HO2.out) (by omega)).mono ?_
          rintro e w3 ⟨A3, n3, c3, rfl, ho3, hb3⟩
          have hn3 : n3 ≤ 100000 := by have h := ho3.1; simp at h; have := HRL.out.2; omega
          go_wp2_with fail
          refine (l02Trim_any _ _ _ _ _ _ ho3 (by omega)).mono ?_
          rintro e w4 ⟨rfl, rfl⟩
          have ho4 := own_trim ho3
          rw [HT.out] at ho4
          have hl4 : Hid ((trim (ds.set k ((lo + hi + 1) / 2))).length = (limbs (tryVal k ds ((lo + hi + 1) / 2))).length) := Lib.hid (by rw [HT.out])
          rw [hl4.out]
          have hm4 : (limbs (tryVal k ds ((lo + hi + 1) / 2))).length ≤ 100000 := by
            rw [← hl4.out]
            exact Nat.le_trans (trim_le _) (by simp; rw [HRL.out.2]; omega)
          generalize hm0 : (limbs (tryVal k ds ((lo + hi + 1) / 2))).length = q at ho4 hm4
          have HO4 := Lib.hid ho4
          clear hm0 ho4 ho3
          go_wp2_with fail
          refine (l02Mul_limbs _ _ _ _ _ (own_rd HO4.out) (by omega) _ _ _ _ (own_rd HO4.out) (by omega)).mono ?_
          rintro e w5 ⟨A5, n5, c5, rfl, ho5, hb5⟩
          have hn5 : n5 ≤ 200000 := by have := own_mul_len ho5 HO4.out HO4.out; omega
          have HB5 := Lib.hid ((HB2.out.trans (hb3.mono HB2.out.size)).trans (hb5.mono (Nat.le_trans HB2.out.size hb3.size)))
          have hrN := hr.below HB5.out (Nat.le_refl _)
          go_wp2_with fail
          refine (l02Compare_any _ _ _ _ _ (own_rd ho5) (by omega) _ _ _ N hrN (by omega)).mono ?_
          rintro e w6 ⟨rfl, hb6⟩
          have HB6 := Lib.hid (HB5.out.trans (hb6.mono HB5.out.size))
          have HO6 := Lib.hid (own_below (own_below (own_below HO2.out hb3 (Nat.le_refl _)) hb5 (Nat.le_refl _)) hb6 (Nat.le_refl _))
          have hmid : ((ds.set k ((lo + hi + 1) / 2)))[k]? = some ((lo + hi + 1) / 2) := by rw [List.getElem?_set_self (by rw [HRL.out.2]; omega)]
          obtain ⟨g, hg, _, _, hc6, _⟩ := own_get HO6.out (ints_get hmid)
          obtain rfl : w.heap.size = g := by simpa using hg
          have hcs := cmp_sq (N := N) (j := k) (ds := ds) (d := (lo + hi + 1) / 2)
          clear hmid hg hb3 hb5 hb6 ho5 hrN hc2 hc3
          by_cases hp : sqB N k ds ((lo + hi + 1) / 2) = true
          · rw [hp] at hcs
            have HQ := Lib.hid hp; clear hp
            generalize cmpN (tryVal k ds ((lo + hi + 1) / 2) * tryVal k ds ((lo + hi + 1) / 2)) N = cv at hcs
            go_wp2_with fail
            go_roundw
            case rel => exact ⟨_, _, _, rfl, rfl, by omega, by omega, by omega, Lib.hid ⟨HQ.out, HP.out.2⟩, HO6.out, HB6.out⟩
            case measure => simp only [intOf]; omega
          · have hp' : sqB N k ds ((lo + hi + 1) / 2) = false := by simpa using hp
            rw [hp'] at hcs
            have HQ := Lib.hid hp'; clear hp hp'
            generalize cmpN (tryVal k ds ((lo + hi + 1) / 2) * tryVal k ds ((lo + hi + 1) / 2)) N = cv at hcs
            go_wp2_with fail
            go_roundw
            case rel => exact ⟨_, _, _, rfl, rfl, by omega, by omega, by omega, Lib.hid ⟨HP.out.1, by rw [Int.sub_add_cancel]; exact HQ.out⟩, HO6.out, HB6.out⟩
            case measure => simp only [intOf]; omega
        · have ho2 := own_put hown k (.int .i64 lo)
          rw [ints_set, List.set_set] at ho2
          have HO2 := Lib.hid ho2
          have HB2 := Lib.hid (hb.setCell (p := ⟨w.heap.size, k, none⟩) (Nat.le_refl _) (.int .i64 lo))
          have e : hi = lo := by omega
          have HSTEP := Lib.hid (HRL.out.1.step hl0 (by omega) (sqB_true.1 HP.out.1) (by have h := HP.out.2; rw [e] at h; exact sqB_false.1 h))
          clear hown hb ho2 e
          go_wp2_with fail
          go_roundw
          case rel => exact ⟨k, ds.set k lo, rfl, by omega, Lib.hid ⟨HSTEP.out, by simp [HRL.out.2]⟩, HO2.out, HB2.out⟩
          case measure => simp only [intOf]; omega

/-- Two lists in rows of their own. -/
def RetSS (w : World) (e : TypeId) (vs us : List Value) (en : Ending) (w' : World) : Prop :=
  ∃ A n c A' n' c', en = .returned (.tuple #[.slice A n c, .slice A' n' c']) ∧ w'.ownsRow w.heap.size e 1 (.slice A n c) n vs ∧ w'.ownsRow w.heap.size e 1 (.slice A' n' c') n' us ∧
    (∀ k, (Value.slice A n c).ownBlock = some k → (Value.slice A' n' c').ownBlock = some k → False) ∧ Below w.heap.size w w'
theorem own_eight (w : World) (e : Nat) : (w.alloc (.cells #[.int .i64 8] e)).ownsRow w.heap.size e 1 (.slice (some ⟨w.heap.size, 0, none⟩) 1 1) 1 (ints (limbs 8)) := by
  have h := own_lit w #[.int .i64 8] 1 e rfl (by omega)
  rwa [show limbs 8 = [8] from limbs_one (x := 8) (by omega) (by omega)]
theorem isqrt_le (n : Nat) : isqrt n ≤ n := by
  have h := (isqrt_spec n).1
  rcases Nat.eq_zero_or_pos (isqrt n) with h0 | h0
  · omega
  · have : isqrt n * 1 ≤ isqrt n * isqrt n := Nat.mul_le_mul_left _ h0
    omega
theorem unpSum_le (n : Nat) : unpSum n ≤ isqrt (n * 8 + 1) := by unfold unpSum; omega
theorem two_toNat : (2 : Int).toNat = 2 := rfl
theorem size_new (w : World) (o : Obj) : w.heap.size ≤ (w.alloc o).heap.size := by simp

set_option maxHeartbeats 2000000 in
theorem l04Unpair_any (w : World) (A : Option Addr) (n c N : Nat) (hr : Rd w A n (ints (limbs N))) (hn : n ≤ 1000) :
    Calls Try.prog 80 #[.slice A n c] w (RetSS w 2 (ints (limbs (unpA N))) (ints (limbs (unpB N)))) := by
  have HU := Lib.hid (unp_ok N); have HP := Lib.hid (isqrt_pos N)
  have HL : Hid ((limbs N).length = n) := Lib.hid (by simpa using hr.1)
  have HO8 := Lib.hid (own_eight w 2)
  have HB8 := Lib.hid (below_new w (.cells #[.int .i64 8] 2))
  go_enter Try.func80, Try.ntmps80
  go_wp2_with fail
  refine (l02Mul_limbs _ _ _ _ N (hr.alloc _) (by omega) _ _ _ 8 (own_rd HO8.out) (by omega)).mono ?_
  rintro e w1 ⟨A1, n1, c1, rfl, ho1, hb1⟩
  have hn1 : n1 ≤ 1010 := own_len_le ho1 (by have := limbs_len_mul N 8; have := own_limb_len HO8.out; have := HL.out; omega)
  have HB1 := Lib.hid (HB8.out.trans (hb1.mono HB8.out.size))
  have HO2 := Lib.hid (own_one w1 2)
  have HB2 := Lib.hid (HB1.out.trans ((below_new w1 (.cells #[.int .i64 1] 2)).mono HB1.out.size))
  go_wp2_with fail
  refine (l02Add_limbs _ _ _ _ (N * 8) ((own_rd ho1).alloc _) (by omega) _ _ _ 1 (own_rd HO2.out) (by omega)).mono ?_
  rintro e w3 ⟨A3, n3, c3, rfl, ho3, hb3⟩
  have hn3 : n3 ≤ 1020 := by have := own_add_len ho3 ho1 HO2.out; omega
  have HB3 := Lib.hid (HB2.out.trans (hb3.mono HB2.out.size))
  clear HO8 HB8 HB1 hb1 ho1 HO2 HB2
  go_wp2_with fail
  refine (l02Root_any _ _ _ _ _ (own_rd ho3) (by omega)).mono ?_
  rintro e w4 ⟨A4, n4, c4, rfl, ho4, hb4⟩
  have hn4 : n4 ≤ 1020 := own_len_le ho4 (Nat.le_trans (limbs_len_mono (isqrt_le _)) (by rw [own_limb_len ho3]; omega))
  have HB4 := Lib.hid (HB3.out.trans (hb4.mono HB3.out.size))
  have HO5 := Lib.hid (own_one w4 2)
  have HB5 := Lib.hid (HB4.out.trans ((below_new w4 (.cells #[.int .i64 1] 2)).mono HB4.out.size))
  clear ho3 hb3 HB3 hb4
  go_wp2_with fail
  refine (l02Sub_any _ _ _ _ _ ((own_rd ho4).alloc _) (by omega) _ _ _ 1 (own_rd HO5.out) HP.out).mono ?_
  rintro e w6 ⟨A6, n6, c6, rfl, ho6, hb6⟩
  have hn6 : n6 ≤ 1020 := own_len_le ho6 (Nat.le_trans (limbs_len_mono (Nat.sub_le _ _)) (by rw [own_limb_len ho4]; omega))
  have HB6 := Lib.hid (HB5.out.trans (hb6.mono HB5.out.size))
  clear HB4 HO5 HB5 hb6
  go_wp2_with fail
  refine (l02By_any _ _ _ _ _ (own_rd ho6) (by omega) 2 (by omega) (by omega)).mono ?_
  rw [two_toNat, show (isqrt (N * 8 + 1) - 1) / 2 = unpSum N from rfl]
  rintro e w7 ⟨A7, n7, c7, rfl, ho7, hb7⟩
  have hn7 : n7 ≤ 1020 := own_len_le ho7 (Nat.le_trans (limbs_len_mono (unpSum_le N)) (by rw [own_limb_len ho4]; omega))
  have HB7 := Lib.hid (HB6.out.trans (hb7.mono HB6.out.size))
  have HO8 := Lib.hid (own_one w7 2)
  have Hb8 := Lib.hid (below_new w7 (.cells #[.int .i64 1] 2))
  have HB8 := Lib.hid (HB7.out.trans (Hb8.out.mono HB7.out.size))
  clear HB6 hb7 ho6 ho4
  go_wp2_with fail
  refine (l02Add_limbs _ _ _ _ (unpSum N) ((own_rd ho7).alloc _) (by omega) _ _ _ 1 (own_rd HO8.out) (by omega)).mono ?_
  rintro e w9 ⟨A9, n9, c9, rfl, ho9, hb9⟩
  have hn9 : n9 ≤ 1030 := by have := own_add_len ho9 ho7 HO8.out; omega
  have HB9 := Lib.hid (HB8.out.trans (hb9.mono HB8.out.size))
  have ho7' := own_below (own_below ho7 Hb8.out (Nat.le_refl _)) hb9 (Nat.le_refl _)
  have hr7 := own_rd ho7'
  clear HB8 HB7 HO8 Hb8
  go_wp2_with fail
  refine (l02Mul_limbs _ _ _ _ (unpSum N) hr7 (by omega) _ _ _ (unpSum N + 1) (own_rd ho9) (by omega)).mono ?_
  rintro e w10 ⟨A10, n10, c10, rfl, ho10, hb10⟩
  have hn10 : n10 ≤ 2100 := by have := own_mul_len ho10 ho7' ho9; omega
  have HB10 := Lib.hid (HB9.out.trans (hb10.mono HB9.out.size))
  have hr7' := hr7.below hb10 (Nat.le_refl _)
  clear HB9 hb9 ho9 hb10
  go_wp2_with fail
  refine (l02By_any _ _ _ _ _ (own_rd ho10) (by omega) 2 (by omega) (by omega)).mono ?_
  rw [two_toNat]
  rintro e w11 ⟨A11, n11, c11, rfl, ho11, hb11⟩
  have HB11 := Lib.hid (HB10.out.trans (hb11.mono HB10.out.size))
  have hr7'' := hr7'.below hb11 (Nat.le_refl _)
  have hrn := hr.below HB11.out (Nat.le_refl _)
  have hs11 := HB11.out.size
  clear HB10 hb11 hr7' ho10
  go_wp2_with fail
  refine (l02Sub_any _ _ _ _ N hrn (by omega) _ _ _ _ (own_rd ho11) HU.out.1).mono ?_
  rw [show N - unpSum N * (unpSum N + 1) / 2 = unpB N from rfl]
  rintro e w12 ⟨A12, n12, c12, rfl, ho12, hb12⟩
  have HB12 := Lib.hid (HB11.out.trans (hb12.mono HB11.out.size))
  have hr7 := hr7''.below hb12 (Nat.le_refl _)
  clear HB11 hb12 hr7'' ho11 hrn
  go_wp2_with fail
  refine (l02Sub_any _ _ _ _ (unpSum N) hr7 (by omega) _ _ _ (unpB N) (own_rd ho12) HU.out.2).mono ?_
  rw [show unpSum N - unpB N = unpA N from rfl]
  rintro e w13 ⟨A13, n13, c13, rfl, ho13, hb13⟩
  go_wp2_with fail
  go_ret2
  refine ⟨A13, n13, c13, A12, n12, c12, rfl, own_base ho13 HB12.out.size, own_base (own_below ho12 hb13 (Nat.le_refl _)) hs11, ?_, HB12.out.trans (hb13.mono HB12.out.size)⟩
  intro k h1 h2
  have := (ho13.lt k h1).1
  have := (ho12.lt k h2).2
  omega

set_option maxHeartbeats 400000 in
theorem triangle_any (w : World) (A : Option Addr) (n c X : Nat) (hr : Rd w A n (ints (limbs X))) (hn : n ≤ 100000) :
    Calls Try.prog 92 #[.slice A n c] w (RetS w 2 (ints (limbs (X * (X + 1) / 2)))) := by
  have hnil : Rd w none 0 (ints (limbs 0)) := by rw [limbs_zero]; exact Rd.nil _ _
  have HE : Hid (pairVal X 0 = X * (X + 1) / 2) := Lib.hid (by simp [pairVal])
  go_enter Try.func92, Try.ntmps92
  go_wp2_with fail
  refine (pairOf_any _ _ _ _ X hr (by omega) _ _ _ 0 hnil (by omega)).mono ?_
  rw [HE.out]
  rintro e w1 ⟨A1, n1, c1, rfl, ho1, hb1⟩
  go_wp2_with fail
  go_ret
  exact ⟨A1, n1, c1, rfl, ho1, hb1⟩

set_option maxHeartbeats 2000000 in
theorem unpairOf_any (w : World) (A : Option Addr) (n c N : Nat) (hr : Rd w A n (ints (limbs N))) (hn : n ≤ 1000) :
    Calls Try.prog 81 #[.slice A n c] w (RetSS w 2 (ints (limbs (unpA N))) (ints (limbs (unpB N)))) := by
  have HU := Lib.hid (unp_ok N); have HP := Lib.hid (isqrt_pos N)
  have HL : Hid ((limbs N).length = n) := Lib.hid (by simpa using hr.1)
  have HO8 := Lib.hid (own_eight w 2)
  have HB8 := Lib.hid (below_new w (.cells #[.int .i64 8] 2))
  go_enter Try.func81, Try.ntmps81
  go_wp2_with fail
  refine (multiply_any _ _ _ _ N (hr.alloc _) (by omega) _ _ _ 8 (own_rd HO8.out) (by omega)).mono ?_
  rintro e w1 ⟨A1, n1, c1, rfl, ho1, hb1⟩
  have hn1 : n1 ≤ 1010 := own_len_le ho1 (by have := limbs_len_mul N 8; have := own_limb_len HO8.out; have := HL.out; omega)
  have HB1 := Lib.hid (HB8.out.trans (hb1.mono HB8.out.size))
  go_wp2_with fail
  refine (one_any _).mono ?_
  rintro e w2 ⟨A2, n2, c2, rfl, ho2, hb2⟩
  have hn2 := own_small ho2 (by omega)
  have HB2 := Lib.hid (HB1.out.trans (hb2.mono HB1.out.size))
  go_wp2_with fail
  refine (add_any _ _ _ _ (N * 8) ((own_rd ho1).below hb2 (Nat.le_refl _)) (by omega) _ _ _ 1 (own_rd ho2) (by omega)).mono ?_
  rintro e w3 ⟨A3, n3, c3, rfl, ho3, hb3⟩
  have hn3 : n3 ≤ 1020 := by have := own_add_len ho3 ho1 ho2; omega
  have HB3 := Lib.hid (HB2.out.trans (hb3.mono HB2.out.size))
  clear HO8 HB8 HB1 hb1 ho1 ho2 hb2 HB2
  go_wp2_with fail
  refine (rootOf_any _ _ _ _ _ (own_rd ho3) (by omega)).mono ?_
  rintro e w4 ⟨A4, n4, c4, rfl, ho4, hb4⟩
  have hn4 : n4 ≤ 1020 := own_len_le ho4 (Nat.le_trans (limbs_len_mono (isqrt_le _)) (by rw [own_limb_len ho3]; omega))
  have HB4 := Lib.hid (HB3.out.trans (hb4.mono HB3.out.size))
  clear ho3 hb3 HB3 hb4
  go_wp2_with fail
  refine (one_any _).mono ?_
  rintro e w5 ⟨A5, n5, c5, rfl, ho5, hb5⟩
  have HB5 := Lib.hid (HB4.out.trans (hb5.mono HB4.out.size))
  go_wp2_with fail
  refine (subtract_any _ _ _ _ _ ((own_rd ho4).below hb5 (Nat.le_refl _)) (by omega) _ _ _ 1 (own_rd ho5) HP.out).mono ?_
  rintro e w6 ⟨A6, n6, c6, rfl, ho6, hb6⟩
  have hn6 : n6 ≤ 1020 := own_len_le ho6 (Nat.le_trans (limbs_len_mono (Nat.sub_le _ _)) (by rw [own_limb_len ho4]; omega))
  have HB6 := Lib.hid (HB5.out.trans (hb6.mono HB5.out.size))
  clear HB4 ho5 hb5 HB5 hb6
  go_wp2_with fail
  refine (divideSmall_any _ _ _ _ _ (own_rd ho6) (by omega) 2 (by omega) (by omega)).mono ?_
  rw [two_toNat, show (isqrt (N * 8 + 1) - 1) / 2 = unpSum N from rfl]
  rintro e w7 ⟨A7, n7, c7, rfl, ho7, hb7⟩
  have hn7 : n7 ≤ 1020 := own_len_le ho7 (Nat.le_trans (limbs_len_mono (unpSum_le N)) (by rw [own_limb_len ho4]; omega))
  have HB7 := Lib.hid (HB6.out.trans (hb7.mono HB6.out.size))
  clear HB6 hb7 ho6 ho4
  go_wp2_with fail
  refine (triangle_any _ _ _ _ _ (own_rd ho7) (by omega)).mono ?_
  rintro e w11 ⟨A11, n11, c11, rfl, ho11, hb11⟩
  have HB11 := Lib.hid (HB7.out.trans (hb11.mono HB7.out.size))
  have hr7'' := (own_rd ho7).below hb11 (Nat.le_refl _)
  have hrn := hr.below HB11.out (Nat.le_refl _)
  have hs11 := HB11.out.size
  clear HB7 hb11 ho7
  go_wp2_with fail
  refine (subtract_any _ _ _ _ N hrn (by omega) _ _ _ _ (own_rd ho11) HU.out.1).mono ?_
  rw [show N - unpSum N * (unpSum N + 1) / 2 = unpB N from rfl]
  rintro e w12 ⟨A12, n12, c12, rfl, ho12, hb12⟩
  have HB12 := Lib.hid (HB11.out.trans (hb12.mono HB11.out.size))
  have hr7 := hr7''.below hb12 (Nat.le_refl _)
  clear HB11 hb12 hr7'' ho11 hrn
  go_wp2_with fail
  refine (subtract_any _ _ _ _ (unpSum N) hr7 (by omega) _ _ _ (unpB N) (own_rd ho12) HU.out.2).mono ?_
  rw [show unpSum N - unpB N = unpA N from rfl]
  rintro e w13 ⟨A13, n13, c13, rfl, ho13, hb13⟩
  go_wp2_with fail
  go_ret2
  refine ⟨A13, n13, c13, A12, n12, c12, rfl, own_base ho13 HB12.out.size, own_base (own_below ho12 hb13 (Nat.le_refl _)) hs11, ?_, HB12.out.trans (hb13.mono HB12.out.size)⟩
  intro k h1 h2
  have := (ho13.lt k h1).1
  have := (ho12.lt k h2).2
  omega

def unpNum (xs : List Int) : List Int × List Int × Int := if isNatB xs = true then (limbs (unpA (natOf xs)), limbs (unpB (natOf xs)), 0) else ([], [], 1)
theorem unpNum_ok {X : Nat} (h : isNatB (limbs X) = true) : unpNum (limbs X) = (limbs (unpA X), limbs (unpB X), 0) := by simp only [unpNum, if_pos h, natOf_limbs]
theorem unpNum_bad {xs : List Int} (h : isNatB xs = false) : unpNum xs = ([], [], 1) := by simp [unpNum, h]
theorem unp_fit (X : Nat) (h : (limbs X).length ≤ 40) : (limbs (unpA X)).length ≤ 100 ∧ (limbs (unpB X)).length ≤ 40 := by
  have h1 : unpB X ≤ X := by unfold unpB; omega
  have h2 : unpA X ≤ X * 8 + 1 := Nat.le_trans (by unfold unpA; omega) (Nat.le_trans (unpSum_le X) (isqrt_le _))
  have h3 := limbs_len_mono h2
  have h4 := limbs_len_mul X 8
  have h5 := limbs_len_add (X * 8) 1
  have h6 := limbs_len_small (n := 8) (by omega)
  have h7 := limbs_len_small (n := 1) (by omega)
  have h8 := limbs_len_mono h1
  omega
theorem unpNum_len (xs : List Int) : (unpNum xs).1.length ≤ 1000000 ∧ (unpNum xs).2.1.length ≤ 1000000 := by
  by_cases h : isNatB xs = true
  · obtain ⟨X, rfl, hX⟩ := isNat_limbs h
    have := unp_fit X hX
    rw [unpNum_ok h]
    simp only; omega
  · rw [unpNum_bad (by simpa using h)]; simp

set_option maxHeartbeats 1000000 in
theorem specUnpairOf_any (w : World) (A : Option Addr) (n c : Nat) (xs : List Int) (hr : Rd w A n (ints xs)) (hn : n ≤ 1099511627776) :
    Calls Try.prog 41 #[.slice A n c] w (RetSSI w 2 (ints (unpNum xs).1) (ints (unpNum xs).2.1) (unpNum xs).2.2) := by
  by_cases hN : isNatB xs = true
  · obtain ⟨X, rfl, hX⟩ := isNat_limbs hN
    have HF := Lib.hid (unpNum_ok hN)
    have hnx : n ≤ 40 := by have h := hr.1; simp at h; omega
    clear hX
    go_enter Try.func41, Try.ntmps41
    go_wp2_with (go_at_call 62; refine (l02Is_any _ _ _ _ _ hr hn).mono ?_; rintro e w' ⟨rfl, rfl⟩)
    refine (l04Unpair_any _ _ _ _ X hr (by omega)).mono ?_
    rintro e w1 ⟨A1, n1, c1, A2, n2, c2, rfl, ho1, ho2, hdis, hb1⟩
    have HD := Lib.hid hdis
    clear hdis
    go_wp2_with fail
    go_ret3
    rw [HF.out]
    exact ⟨A1, n1, c1, A2, n2, c2, rfl, ho1, ho2, HD.out, hb1⟩
  · have hN' : isNatB xs = false := by simpa using hN
    have HF := Lib.hid (unpNum_bad hN')
    clear hN
    go_enter Try.func41, Try.ntmps41
    go_wp2_with (go_at_call 62; refine (l02Is_any _ _ _ _ _ hr hn).mono ?_; rintro e w' ⟨rfl, rfl⟩)
    go_ret3
    rw [HF.out]
    exact ⟨none, 0, 0, none, 0, 0, rfl, own_nil _ _ _, own_nil _ _ _, by simp [Value.ownBlock], Below.refl _ _⟩

set_option maxHeartbeats 1000000 in
theorem implUnpairOf_any (w : World) (A : Option Addr) (n c : Nat) (xs : List Int) (hr : Rd w A n (ints xs)) (hn : n ≤ 1099511627776) :
    Calls Try.prog 42 #[.slice A n c] w (RetSSI w 2 (ints (unpNum xs).1) (ints (unpNum xs).2.1) (unpNum xs).2.2) := by
  by_cases hN : isNatB xs = true
  · obtain ⟨X, rfl, hX⟩ := isNat_limbs hN
    have HF := Lib.hid (unpNum_ok hN)
    have hnx : n ≤ 40 := by have h := hr.1; simp at h; omega
    clear hX
    go_enter Try.func42, Try.ntmps42
    go_wp2_with (go_at_call 65; refine (isNatural_any _ _ _ _ _ hr hn).mono ?_; rintro e w' ⟨rfl, rfl⟩)
    refine (unpairOf_any _ _ _ _ X hr (by omega)).mono ?_
    rintro e w1 ⟨A1, n1, c1, A2, n2, c2, rfl, ho1, ho2, hdis, hb1⟩
    have HD := Lib.hid hdis
    clear hdis
    go_wp2_with fail
    go_ret3
    rw [HF.out]
    exact ⟨A1, n1, c1, A2, n2, c2, rfl, ho1, ho2, HD.out, hb1⟩
  · have hN' : isNatB xs = false := by simpa using hN
    have HF := Lib.hid (unpNum_bad hN')
    clear hN
    go_enter Try.func42, Try.ntmps42
    go_wp2_with (go_at_call 65; refine (isNatural_any _ _ _ _ _ hr hn).mono ?_; rintro e w' ⟨rfl, rfl⟩)
    go_ret3
    rw [HF.out]
    exact ⟨none, 0, 0, none, 0, 0, rfl, own_nil _ _ _, own_nil _ _ _, by simp [Value.ownBlock], Below.refl _ _⟩

set_option maxHeartbeats 4000000 in
set_option maxRecDepth 100000 in
theorem lawUnpairOf (w : World) (A0 : Option Addr) (n0 c0 : Nat) (x0 : List Int) (hr0 : Rd w A0 n0 (ints x0)) :
    Calls Try.prog 12 #[.slice A0 n0 c0] w fun e w' => e = .returned (.bool true) ∧ Below w.heap.size w w' := by
  by_cases hbig0 : n0 ≤ 1048576
  rotate_left
  · go_enter Try.func12, Try.ntmps12
    go_wp2_with fail
    go_ret
    exact ⟨rfl, Below.refl _ _⟩
  have hS : ∀ (w : World) (A0 : Option Addr) (n0 c0 : Nat) (h0 : Rd w A0 n0 (ints x0)) (hn0 : n0 ≤ 1099511627776), Calls Try.prog 41 #[.slice A0 n0 c0] w (RetSSI w 2 (ints ((unpNum x0).1)) (ints ((unpNum x0).2.1)) ((unpNum x0).2.2)) := fun w A0 n0 c0 h0 hn0 => specUnpairOf_any w A0 n0 c0 x0 h0 hn0
  have hI : ∀ (w : World) (A0 : Option Addr) (n0 c0 : Nat) (h0 : Rd w A0 n0 (ints x0)) (hn0 : n0 ≤ 1099511627776), Calls Try.prog 42 #[.slice A0 n0 c0] w (RetSSI w 2 (ints ((unpNum x0).1)) (ints ((unpNum x0).2.1)) ((unpNum x0).2.2)) := fun w A0 n0 c0 h0 hn0 => implUnpairOf_any w A0 n0 c0 x0 h0 hn0
  have HRL0 : Hid (((unpNum x0).1).length ≤ 1000000) := Lib.hid ((unpNum_len _).1)
  have HRL1 : Hid (((unpNum x0).2.1).length ≤ 1000000) := Lib.hid ((unpNum_len _).2)
  have HS := Lib.hid hS; have HI := Lib.hid hI
  clear hS hI
  generalize (unpNum x0).1 = r0 at HS HI HRL0
  generalize (unpNum x0).2.1 = r1 at HS HI HRL1
  generalize (unpNum x0).2.2 = r2 at HS HI
  have HXL0 : Hid (x0.length = n0) := Lib.hid (by simpa using hr0.1)
  have HB := Below.refl w.heap.size w
  go_enter Try.func12, Try.ntmps12
  go_wp2_with fail
  refine (toInt64S_any _ _ _ _ x0 (hr0.below HB (Nat.le_refl _)) (by omega)).mono ?_
  rintro e v1 ⟨Ao1, no1, co1, rfl, hoo1, hbv1⟩
  have hno1 : no1 ≤ 1048576 := by have := hoo1.1; simp at this; have := HXL0.out; omega
  replace HB := HB.trans (hbv1.mono HB.size)
  have hrgo1 : Hid (∀ k, (Value.slice Ao1 no1 co1).ownBlock = some k → w.heap.size ≤ k ∧ k < v1.heap.size) := Lib.hid fun k hk => hoo1.lt k hk
  have hszv1 := hbv1.size
  go_wp2_with fail
  refine (HS.out _ _ _ _ (own_rd hoo1) (by omega)).mono ?_
  rintro e v2 ⟨Ao2, no2, co2, Ao3, no3, co3, rfl, hoo2, hoo3, hdiso2, hbv2⟩
  have hno2 : no2 ≤ 1000000 := by have := hoo2.1; simp at this; have := HRL0.out; omega
  have hno3 : no3 ≤ 1000000 := by have := hoo3.1; simp at this; have := HRL1.out; omega
  have HDISo2 := Lib.hid hdiso2; clear hdiso2
  replace hoo1 := own_below hoo1 hbv2 (Nat.le_refl _)
  replace HB := HB.trans (hbv2.mono HB.size)
  have hrgo2 : Hid (∀ k, (Value.slice Ao2 no2 co2).ownBlock = some k → v1.heap.size ≤ k ∧ k < v2.heap.size) := Lib.hid fun k hk => hoo2.lt k hk
  have hrgo3 : Hid (∀ k, (Value.slice Ao3 no3 co3).ownBlock = some k → v1.heap.size ≤ k ∧ k < v2.heap.size) := Lib.hid fun k hk => hoo3.lt k hk
  have hszv2 := hbv2.size
  go_wp2_with fail
  refine (toInt64S_any _ _ _ _ x0 (hr0.below HB (Nat.le_refl _)) (by omega)).mono ?_
  rintro e v3 ⟨Ao4, no4, co4, rfl, hoo4, hbv3⟩
  have hno4 : no4 ≤ 1048576 := by have := hoo4.1; simp at this; have := HXL0.out; omega
  replace hoo1 := own_below hoo1 hbv3 (Nat.le_refl _)
  replace hoo2 := own_below hoo2 hbv3 (Nat.le_refl _)
  replace hoo3 := own_below hoo3 hbv3 (Nat.le_refl _)
  replace HB := HB.trans (hbv3.mono HB.size)
  have hrgo4 : Hid (∀ k, (Value.slice Ao4 no4 co4).ownBlock = some k → v2.heap.size ≤ k ∧ k < v3.heap.size) := Lib.hid fun k hk => hoo4.lt k hk
  have hszv3 := hbv3.size
  go_wp2_with fail
  refine (HI.out _ _ _ _ (own_rd hoo4) (by omega)).mono ?_
  rintro e v4 ⟨Ao5, no5, co5, Ao6, no6, co6, rfl, hoo5, hoo6, hdiso5, hbv4⟩
  have hno5 : no5 ≤ 1000000 := by have := hoo5.1; simp at this; have := HRL0.out; omega
  have hno6 : no6 ≤ 1000000 := by have := hoo6.1; simp at this; have := HRL1.out; omega
  have HDISo5 := Lib.hid hdiso5; clear hdiso5
  replace hoo1 := own_below hoo1 hbv4 (Nat.le_refl _)
  replace hoo2 := own_below hoo2 hbv4 (Nat.le_refl _)
  replace hoo3 := own_below hoo3 hbv4 (Nat.le_refl _)
  replace hoo4 := own_below hoo4 hbv4 (Nat.le_refl _)
  replace HB := HB.trans (hbv4.mono HB.size)
  have hrgo5 : Hid (∀ k, (Value.slice Ao5 no5 co5).ownBlock = some k → v3.heap.size ≤ k ∧ k < v4.heap.size) := Lib.hid fun k hk => hoo5.lt k hk
  have hrgo6 : Hid (∀ k, (Value.slice Ao6 no6 co6).ownBlock = some k → v3.heap.size ≤ k ∧ k < v4.heap.size) := Lib.hid fun k hk => hoo6.lt k hk
  have hszv4 := hbv4.size
  go_wp2_with fail
  refine (eq_same _ _ _ _ _ (own_rd hoo5) (by omega) _ _ _ (own_rd hoo2)).mono ?_
  rintro e v5 ⟨rfl, hbv5⟩
  replace hoo1 := own_below hoo1 hbv5 (Nat.le_refl _)
  replace hoo2 := own_below hoo2 hbv5 (Nat.le_refl _)
  replace hoo3 := own_below hoo3 hbv5 (Nat.le_refl _)
  replace hoo4 := own_below hoo4 hbv5 (Nat.le_refl _)
  replace hoo5 := own_below hoo5 hbv5 (Nat.le_refl _)
  replace hoo6 := own_below hoo6 hbv5 (Nat.le_refl _)
  replace HB := HB.trans (hbv5.mono HB.size)
  have hszv5 := hbv5.size
  go_wp2_with fail
  refine (eq_same _ _ _ _ _ (own_rd hoo6) (by omega) _ _ _ (own_rd hoo3)).mono ?_
  rintro e v6 ⟨rfl, hbv6⟩
  replace hoo1 := own_below hoo1 hbv6 (Nat.le_refl _)
  replace hoo2 := own_below hoo2 hbv6 (Nat.le_refl _)
  replace hoo3 := own_below hoo3 hbv6 (Nat.le_refl _)
  replace hoo4 := own_below hoo4 hbv6 (Nat.le_refl _)
  replace hoo5 := own_below hoo5 hbv6 (Nat.le_refl _)
  replace hoo6 := own_below hoo6 hbv6 (Nat.le_refl _)
  replace HB := HB.trans (hbv6.mono HB.size)
  have hszv6 := hbv6.size
  go_wp2_with fail
  refine (toInt64S_any _ _ _ _ x0 (hr0.below HB (Nat.le_refl _)) (by omega)).mono ?_
  rintro e v7 ⟨Ao7, no7, co7, rfl, hoo7, hbv7⟩
  have hno7 : no7 ≤ 1048576 := by have := hoo7.1; simp at this; have := HXL0.out; omega
  replace hoo1 := own_below hoo1 hbv7 (Nat.le_refl _)
  replace hoo2 := own_below hoo2 hbv7 (Nat.le_refl _)
  replace hoo3 := own_below hoo3 hbv7 (Nat.le_refl _)
  replace hoo4 := own_below hoo4 hbv7 (Nat.le_refl _)
  replace hoo5 := own_below hoo5 hbv7 (Nat.le_refl _)
  replace hoo6 := own_below hoo6 hbv7 (Nat.le_refl _)
  replace HB := HB.trans (hbv7.mono HB.size)
  have hrgo7 : Hid (∀ k, (Value.slice Ao7 no7 co7).ownBlock = some k → v6.heap.size ≤ k ∧ k < v7.heap.size) := Lib.hid fun k hk => hoo7.lt k hk
  have hszv7 := hbv7.size
  go_wp2_with fail
  refine (eq_same _ _ _ _ _ (own_rd hoo4) (by omega) _ _ _ (own_rd hoo7)).mono ?_
  rintro e v8 ⟨rfl, hbv8⟩
  replace hoo1 := own_below hoo1 hbv8 (Nat.le_refl _)
  replace hoo2 := own_below hoo2 hbv8 (Nat.le_refl _)
  replace hoo3 := own_below hoo3 hbv8 (Nat.le_refl _)
  replace hoo4 := own_below hoo4 hbv8 (Nat.le_refl _)
  replace hoo5 := own_below hoo5 hbv8 (Nat.le_refl _)
  replace hoo6 := own_below hoo6 hbv8 (Nat.le_refl _)
  replace hoo7 := own_below hoo7 hbv8 (Nat.le_refl _)
  replace HB := HB.trans (hbv8.mono HB.size)
  have hszv8 := hbv8.size
  go_wp2_with fail
  refine (markInt64S_any _ _ _ _ _ _ hoo4 (by omega) (1) (by omega) (by omega)).mono ?_
  rintro e v9 ⟨rfl, hmo4, hgv9⟩
  replace hoo1 := mark_keep hoo1 hgv9 (fun k h1 h2 => by have := hrgo1.out k h1; have := hrgo4.out k h2; omega)
  replace hoo2 := mark_keep hoo2 hgv9 (fun k h1 h2 => by have := hrgo2.out k h1; have := hrgo4.out k h2; omega)
  replace hoo3 := mark_keep hoo3 hgv9 (fun k h1 h2 => by have := hrgo3.out k h1; have := hrgo4.out k h2; omega)
  replace hoo5 := mark_keep hoo5 hgv9 (fun k h1 h2 => by have := hrgo5.out k h1; have := hrgo4.out k h2; omega)
  replace hoo6 := mark_keep hoo6 hgv9 (fun k h1 h2 => by have := hrgo6.out k h1; have := hrgo4.out k h2; omega)
  replace hoo7 := mark_keep hoo7 hgv9 (fun k h1 h2 => by have := hrgo7.out k h1; have := hrgo4.out k h2; omega)
  replace HB := HB.grown hgv9 HB.size (fun k hk => by have := hrgo4.out k hk; omega)
  replace hoo4 := hmo4
  have hszv9 := hgv9.size
  go_wp2_with fail
  refine (eq_same _ _ _ _ _ (own_rd hoo5) (by omega) _ _ _ (own_rd hoo2)).mono ?_
  rintro e v10 ⟨rfl, hbv10⟩
  replace hoo1 := own_below hoo1 hbv10 (Nat.le_refl _)
  replace hoo2 := own_below hoo2 hbv10 (Nat.le_refl _)
  replace hoo3 := own_below hoo3 hbv10 (Nat.le_refl _)
  replace hoo4 := own_below hoo4 hbv10 (Nat.le_refl _)
  replace hoo5 := own_below hoo5 hbv10 (Nat.le_refl _)
  replace hoo6 := own_below hoo6 hbv10 (Nat.le_refl _)
  replace hoo7 := own_below hoo7 hbv10 (Nat.le_refl _)
  replace HB := HB.trans (hbv10.mono HB.size)
  have hszv10 := hbv10.size
  go_wp2_with fail
  refine (eq_same _ _ _ _ _ (own_rd hoo6) (by omega) _ _ _ (own_rd hoo3)).mono ?_
  rintro e v11 ⟨rfl, hbv11⟩
  replace hoo1 := own_below hoo1 hbv11 (Nat.le_refl _)
  replace hoo2 := own_below hoo2 hbv11 (Nat.le_refl _)
  replace hoo3 := own_below hoo3 hbv11 (Nat.le_refl _)
  replace hoo4 := own_below hoo4 hbv11 (Nat.le_refl _)
  replace hoo5 := own_below hoo5 hbv11 (Nat.le_refl _)
  replace hoo6 := own_below hoo6 hbv11 (Nat.le_refl _)
  replace hoo7 := own_below hoo7 hbv11 (Nat.le_refl _)
  replace HB := HB.trans (hbv11.mono HB.size)
  have hszv11 := hbv11.size
  go_wp2_with fail
  refine (markInt64S_any _ _ _ _ _ _ hoo5 (by omega) (1) (by omega) (by omega)).mono ?_
  rintro e v12 ⟨rfl, hmo5, hgv12⟩
  replace hoo1 := mark_keep hoo1 hgv12 (fun k h1 h2 => by have := hrgo1.out k h1; have := hrgo5.out k h2; omega)
  replace hoo2 := mark_keep hoo2 hgv12 (fun k h1 h2 => by have := hrgo2.out k h1; have := hrgo5.out k h2; omega)
  replace hoo3 := mark_keep hoo3 hgv12 (fun k h1 h2 => by have := hrgo3.out k h1; have := hrgo5.out k h2; omega)
  replace hoo4 := mark_keep hoo4 hgv12 (fun k h1 h2 => by have := hrgo4.out k h1; have := hrgo5.out k h2; omega)
  replace hoo6 := mark_keep hoo6 hgv12 (fun k h1 h2 => by exact HDISo5.out k h2 h1)
  replace hoo7 := mark_keep hoo7 hgv12 (fun k h1 h2 => by have := hrgo7.out k h1; have := hrgo5.out k h2; omega)
  replace HB := HB.grown hgv12 HB.size (fun k hk => by have := hrgo5.out k hk; omega)
  replace hoo5 := hmo5
  have hszv12 := hgv12.size
  go_wp2_with fail
  refine (markInt64S_any _ _ _ _ _ _ hoo6 (by omega) (1 + (no5 : Int)) (by omega) (by omega)).mono ?_
  rintro e v13 ⟨rfl, hmo6, hgv13⟩
  replace hoo1 := mark_keep hoo1 hgv13 (fun k h1 h2 => by have := hrgo1.out k h1; have := hrgo6.out k h2; omega)
  replace hoo2 := mark_keep hoo2 hgv13 (fun k h1 h2 => by have := hrgo2.out k h1; have := hrgo6.out k h2; omega)
  replace hoo3 := mark_keep hoo3 hgv13 (fun k h1 h2 => by have := hrgo3.out k h1; have := hrgo6.out k h2; omega)
  replace hoo4 := mark_keep hoo4 hgv13 (fun k h1 h2 => by have := hrgo4.out k h1; have := hrgo6.out k h2; omega)
  replace hoo5 := mark_keep hoo5 hgv13 (fun k h1 h2 => by exact HDISo5.out k h1 h2)
  replace hoo7 := mark_keep hoo7 hgv13 (fun k h1 h2 => by have := hrgo7.out k h1; have := hrgo6.out k h2; omega)
  replace HB := HB.grown hgv13 HB.size (fun k hk => by have := hrgo6.out k hk; omega)
  replace hoo6 := hmo6
  have hszv13 := hgv13.size
  go_wp2_with fail
  refine (heldInt64S_any _ _ _ _ (1) (own_rd hoo5) (by omega) (by omega) (by omega)).mono ?_
  rintro e v14 ⟨rfl, hbv14⟩
  replace hoo1 := own_below hoo1 hbv14 (Nat.le_refl _)
  replace hoo2 := own_below hoo2 hbv14 (Nat.le_refl _)
  replace hoo3 := own_below hoo3 hbv14 (Nat.le_refl _)
  replace hoo4 := own_below hoo4 hbv14 (Nat.le_refl _)
  replace hoo5 := own_below hoo5 hbv14 (Nat.le_refl _)
  replace hoo6 := own_below hoo6 hbv14 (Nat.le_refl _)
  replace hoo7 := own_below hoo7 hbv14 (Nat.le_refl _)
  replace HB := HB.trans (hbv14.mono HB.size)
  have hszv14 := hbv14.size
  go_wp2_with fail
  refine (heldInt64S_any _ _ _ _ (1 + (no5 : Int)) (own_rd hoo6) (by omega) (by omega) (by omega)).mono ?_
  rintro e v15 ⟨rfl, hbv15⟩
  replace hoo1 := own_below hoo1 hbv15 (Nat.le_refl _)
  replace hoo2 := own_below hoo2 hbv15 (Nat.le_refl _)
  replace hoo3 := own_below hoo3 hbv15 (Nat.le_refl _)
  replace hoo4 := own_below hoo4 hbv15 (Nat.le_refl _)
  replace hoo5 := own_below hoo5 hbv15 (Nat.le_refl _)
  replace hoo6 := own_below hoo6 hbv15 (Nat.le_refl _)
  replace hoo7 := own_below hoo7 hbv15 (Nat.le_refl _)
  replace HB := HB.trans (hbv15.mono HB.size)
  have hszv15 := hbv15.size
  go_wp2_with fail
  refine (toInt64S_any _ _ _ _ x0 (hr0.below HB (Nat.le_refl _)) (by omega)).mono ?_
  rintro e v16 ⟨Ao8, no8, co8, rfl, hoo8, hbv16⟩
  have hno8 : no8 ≤ 1048576 := by have := hoo8.1; simp at this; have := HXL0.out; omega
  replace hoo1 := own_below hoo1 hbv16 (Nat.le_refl _)
  replace hoo2 := own_below hoo2 hbv16 (Nat.le_refl _)
  replace hoo3 := own_below hoo3 hbv16 (Nat.le_refl _)
  replace hoo4 := own_below hoo4 hbv16 (Nat.le_refl _)
  replace hoo5 := own_below hoo5 hbv16 (Nat.le_refl _)
  replace hoo6 := own_below hoo6 hbv16 (Nat.le_refl _)
  replace hoo7 := own_below hoo7 hbv16 (Nat.le_refl _)
  replace HB := HB.trans (hbv16.mono HB.size)
  have hrgo8 : Hid (∀ k, (Value.slice Ao8 no8 co8).ownBlock = some k → v15.heap.size ≤ k ∧ k < v16.heap.size) := Lib.hid fun k hk => hoo8.lt k hk
  have hszv16 := hbv16.size
  go_wp2_with fail
  refine (HI.out _ _ _ _ (own_rd hoo8) (by omega)).mono ?_
  rintro e v17 ⟨Ao9, no9, co9, Ao10, no10, co10, rfl, hoo9, hoo10, hdiso9, hbv17⟩
  have hno9 : no9 ≤ 1000000 := by have := hoo9.1; simp at this; have := HRL0.out; omega
  have hno10 : no10 ≤ 1000000 := by have := hoo10.1; simp at this; have := HRL1.out; omega
  have HDISo9 := Lib.hid hdiso9; clear hdiso9
  replace hoo1 := own_below hoo1 hbv17 (Nat.le_refl _)
  replace hoo2 := own_below hoo2 hbv17 (Nat.le_refl _)
  replace hoo3 := own_below hoo3 hbv17 (Nat.le_refl _)
  replace hoo4 := own_below hoo4 hbv17 (Nat.le_refl _)
  replace hoo5 := own_below hoo5 hbv17 (Nat.le_refl _)
  replace hoo6 := own_below hoo6 hbv17 (Nat.le_refl _)
  replace hoo7 := own_below hoo7 hbv17 (Nat.le_refl _)
  replace hoo8 := own_below hoo8 hbv17 (Nat.le_refl _)
  replace HB := HB.trans (hbv17.mono HB.size)
  have hrgo9 : Hid (∀ k, (Value.slice Ao9 no9 co9).ownBlock = some k → v16.heap.size ≤ k ∧ k < v17.heap.size) := Lib.hid fun k hk => hoo9.lt k hk
  have hrgo10 : Hid (∀ k, (Value.slice Ao10 no10 co10).ownBlock = some k → v16.heap.size ≤ k ∧ k < v17.heap.size) := Lib.hid fun k hk => hoo10.lt k hk
  have hszv17 := hbv17.size
  go_wp2_with fail
  refine (eq_same _ _ _ _ _ (own_rd hoo9) (by omega) _ _ _ (own_rd hoo2)).mono ?_
  rintro e v18 ⟨rfl, hbv18⟩
  replace hoo1 := own_below hoo1 hbv18 (Nat.le_refl _)
  replace hoo2 := own_below hoo2 hbv18 (Nat.le_refl _)
  replace hoo3 := own_below hoo3 hbv18 (Nat.le_refl _)
  replace hoo4 := own_below hoo4 hbv18 (Nat.le_refl _)
  replace hoo5 := own_below hoo5 hbv18 (Nat.le_refl _)
  replace hoo6 := own_below hoo6 hbv18 (Nat.le_refl _)
  replace hoo7 := own_below hoo7 hbv18 (Nat.le_refl _)
  replace hoo8 := own_below hoo8 hbv18 (Nat.le_refl _)
  replace hoo9 := own_below hoo9 hbv18 (Nat.le_refl _)
  replace hoo10 := own_below hoo10 hbv18 (Nat.le_refl _)
  replace HB := HB.trans (hbv18.mono HB.size)
  have hszv18 := hbv18.size
  go_wp2_with fail
  refine (eq_same _ _ _ _ _ (own_rd hoo10) (by omega) _ _ _ (own_rd hoo3)).mono ?_
  rintro e v19 ⟨rfl, hbv19⟩
  replace hoo1 := own_below hoo1 hbv19 (Nat.le_refl _)
  replace hoo2 := own_below hoo2 hbv19 (Nat.le_refl _)
  replace hoo3 := own_below hoo3 hbv19 (Nat.le_refl _)
  replace hoo4 := own_below hoo4 hbv19 (Nat.le_refl _)
  replace hoo5 := own_below hoo5 hbv19 (Nat.le_refl _)
  replace hoo6 := own_below hoo6 hbv19 (Nat.le_refl _)
  replace hoo7 := own_below hoo7 hbv19 (Nat.le_refl _)
  replace hoo8 := own_below hoo8 hbv19 (Nat.le_refl _)
  replace hoo9 := own_below hoo9 hbv19 (Nat.le_refl _)
  replace hoo10 := own_below hoo10 hbv19 (Nat.le_refl _)
  replace HB := HB.trans (hbv19.mono HB.size)
  have hszv19 := hbv19.size
  go_wp2_with fail
  refine (heldInt64S_any _ _ _ _ (1) (own_rd hoo5) (by omega) (by omega) (by omega)).mono ?_
  rintro e v20 ⟨rfl, hbv20⟩
  replace hoo1 := own_below hoo1 hbv20 (Nat.le_refl _)
  replace hoo2 := own_below hoo2 hbv20 (Nat.le_refl _)
  replace hoo3 := own_below hoo3 hbv20 (Nat.le_refl _)
  replace hoo4 := own_below hoo4 hbv20 (Nat.le_refl _)
  replace hoo5 := own_below hoo5 hbv20 (Nat.le_refl _)
  replace hoo6 := own_below hoo6 hbv20 (Nat.le_refl _)
  replace hoo7 := own_below hoo7 hbv20 (Nat.le_refl _)
  replace hoo8 := own_below hoo8 hbv20 (Nat.le_refl _)
  replace hoo9 := own_below hoo9 hbv20 (Nat.le_refl _)
  replace hoo10 := own_below hoo10 hbv20 (Nat.le_refl _)
  replace HB := HB.trans (hbv20.mono HB.size)
  have hszv20 := hbv20.size
  go_wp2_with fail
  refine (heldInt64S_any _ _ _ _ (1 + (no5 : Int)) (own_rd hoo6) (by omega) (by omega) (by omega)).mono ?_
  rintro e v21 ⟨rfl, hbv21⟩
  replace hoo1 := own_below hoo1 hbv21 (Nat.le_refl _)
  replace hoo2 := own_below hoo2 hbv21 (Nat.le_refl _)
  replace hoo3 := own_below hoo3 hbv21 (Nat.le_refl _)
  replace hoo4 := own_below hoo4 hbv21 (Nat.le_refl _)
  replace hoo5 := own_below hoo5 hbv21 (Nat.le_refl _)
  replace hoo6 := own_below hoo6 hbv21 (Nat.le_refl _)
  replace hoo7 := own_below hoo7 hbv21 (Nat.le_refl _)
  replace hoo8 := own_below hoo8 hbv21 (Nat.le_refl _)
  replace hoo9 := own_below hoo9 hbv21 (Nat.le_refl _)
  replace hoo10 := own_below hoo10 hbv21 (Nat.le_refl _)
  replace HB := HB.trans (hbv21.mono HB.size)
  have hszv21 := hbv21.size
  go_wp2_with fail
  go_ret
  exact ⟨rfl, HB⟩
end Go.Proofs.Ytdpkcnjoklnoeaa
