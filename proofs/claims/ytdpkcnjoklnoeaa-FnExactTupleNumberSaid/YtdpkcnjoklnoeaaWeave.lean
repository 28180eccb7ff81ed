/- WeaveNaturals: the reference's function and the program's give the same list and code. -/
import Derived.Test.YtdpkcnjoklnoeaaDig
namespace Go.Proofs.Ytdpkcnjoklnoeaa
open Go.RowKit Limb

def weaveVal (X Y : Nat) : Nat := joinVal 10 (wv (digs 10 X) (digs 10 Y) (max (digs 10 X).length (digs 10 Y).length))
def weaveNum (xs ys : List Int) : List Int × Int :=
  if isNatB xs = true ∧ isNatB ys = true then (fitOr (weaveVal (natOf xs) (natOf ys)), fitCode (weaveVal (natOf xs) (natOf ys))) else ([], 1)
theorem weaveNum_ok {X Y : Nat} (h1 : isNatB (limbs X) = true) (h2 : isNatB (limbs Y) = true) : weaveNum (limbs X) (limbs Y) = (fitOr (weaveVal X Y), fitCode (weaveVal X Y)) := by
  simp only [weaveNum, if_pos (And.intro h1 h2), natOf_limbs]
theorem weaveNum_bad {xs ys : List Int} (h : ¬ (isNatB xs = true ∧ isNatB ys = true)) : weaveNum xs ys = ([], 1) := by simp only [weaveNum, if_neg h]
theorem weaveNum_len (xs ys : List Int) : (weaveNum xs ys).1.length ≤ 1000000 := by
  have := fitOr_len (weaveVal (natOf xs) (natOf ys))
  simp only [weaveNum]
  split
  · simp only; omega
  · simp
theorem getD_some {xs : List Int} {k : Nat} {x : Int} (h : xs[k]? = some x) : xs.getD k 0 = x := by rw [List.getD_eq_getElem?_getD, h]; rfl
theorem getD_far {xs : List Int} {k : Nat} (h : xs.length ≤ k) : xs.getD k 0 = 0 := by rw [List.getD_eq_getElem?_getD, List.getElem?_eq_none h]; rfl
theorem wv_snoc {xs ys : List Int} {k : Nat} {x y : Int} (hx : xs.getD k 0 = x) (hy : ys.getD k 0 = y) : ints (wv xs ys k) ++ [.int .i64 x, .int .i64 y] = ints (wv xs ys (k + 1)) := by
  simp only [wv, hx, hy]; simp
theorem rd_two (w : World) (x y : Int) (e : TypeId) : Rd (w.alloc (.cells #[.int .i64 x, .int .i64 y] e)) (some ⟨w.heap.size, 0, none⟩) 2 [.int .i64 x, .int .i64 y] :=
  own_rd (own_lit w #[.int .i64 x, .int .i64 y] 2 e rfl (by omega))

set_option maxHeartbeats 2000000 in
theorem specWeaveNaturals_any (w : World) (A : Option Addr) (n c : Nat) (xs : List Int) (hr : Rd w A n (ints xs)) (hn : n ≤ 1099511627776) (A' : Option Addr) (n' c' : Nat) (ys : List Int) (hr' : Rd w A' n' (ints ys)) (hn' : n' ≤ 1099511627776) :
    Calls Try.prog 31 #[.slice A n c, .slice A' n' c'] w (RetSI w 2 (ints (weaveNum xs ys).1) (weaveNum xs ys).2) := by
  by_cases hN1 : isNatB xs = true
  · by_cases hN2 : isNatB ys = true
    · obtain ⟨X, rfl, hX⟩ := isNat_limbs hN1
      obtain ⟨Y, rfl, hY⟩ := isNat_limbs hN2
      have HF := Lib.hid (weaveNum_ok hN1 hN2)
      have hnx : n ≤ 40 := by have h := hr.1; simp at h; omega
      have hny : n' ≤ 40 := by have h := hr'.1; simp at h; omega
      have HDX : Hid ((digs 10 X).length ≤ 800) := Lib.hid (by have := digs_len_limbs (b := 10) (by omega) X; omega)
      have HDY : Hid ((digs 10 Y).length ≤ 800) := Lib.hid (by have := digs_len_limbs (b := 10) (by omega) Y; omega)
      clear hX hY
      go_enter Try.func31, Try.ntmps31
      go_wp2_with fail
      refine (l02Is_any _ _ _ _ _ hr hn).mono ?_
      rw [hN1]
      rintro e w1 ⟨rfl, rfl⟩
      go_wp2_with fail
      refine (l02Is_any _ _ _ _ _ hr' hn').mono ?_
      rw [hN2]
      rintro e w1 ⟨rfl, rfl⟩
      clear hN1 hN2
      go_wp2_with fail
      refine (l02Digits_any _ _ _ _ X hr (by omega) 10 (by omega) (by omega)).mono ?_
      rintro e w1 ⟨A1, n1, c1, rfl, ho1, hb1⟩
      go_wp2_with fail
      refine (l02Digits_any _ _ _ _ Y (hr'.below hb1 (Nat.le_refl _)) (by omega) 10 (by omega) (by omega)).mono ?_
      rintro e w2 ⟨A2, n2, c2, rfl, ho2, hb2⟩
      rw [show (10 : Int).toNat = 10 from rfl] at ho1 ho2
      have hr1 := (own_rd ho1).below hb2 (Nat.le_refl _)
      have hr2 := own_rd ho2
      have HB2 := Lib.hid (hb1.trans (hb2.mono hb1.size))
      have hl1 : (digs 10 X).length = n1 := by simpa using ho1.1
      have hl2 : (digs 10 Y).length = n2 := by simpa using ho2.1
      have hn1 : n1 ≤ 800 := by have := HDX.out; omega
      have hn2 : n2 ≤ 800 := by have := HDY.out; omega
      have HWV : Hid (weaveVal X Y = joinVal 10 (wv (digs 10 X) (digs 10 Y) (max n1 n2))) := Lib.hid (by rw [weaveVal, hl1, hl2])
      have HIN : Hid (∀ M, ∀ d ∈ wv (digs 10 X) (digs 10 Y) M, 0 ≤ d ∧ d < (10 : Int)) := Lib.hid (fun M => wv_in (by omega) (digs_in (b := 10) (by omega) X) (digs_in (b := 10) (by omega) Y) M)
      have HL1 := Lib.hid hl1; have HL2 := Lib.hid hl2
      clear hl1 hl2 ho1 ho2 hb1 hb2 HDX HDY hr hr'
      generalize digs 10 X = xd at hr1 HL1 HWV HIN
      generalize digs 10 Y = yd at hr2 HL2 HWV HIN
      generalize weaveVal X Y = V at HF HWV
      have hM1 : n1 ≤ max n1 n2 := Nat.le_max_left _ _
      have hM2 : n2 ≤ max n1 n2 := Nat.le_max_right _ _
      have hM3 : Hid (max n1 n2 = n1 ∨ max n1 n2 = n2) := Lib.hid (by omega)
      have hMb : max n1 n2 ≤ 800 := by omega
      generalize max n1 n2 = M at HWV hM1 hM2 hM3 hMb
      go_wp2_with fail
      go_loopw [8, 9] (fun v i wr => ∃ (k : Nat), i = .int .i64 k ∧ k ≤ M ∧ wr.ownsRow w2.heap.size 2 1 v (2 * k) (ints (wv xd yd k)) ∧ Below w2.heap.size w2 wr) (fun _ i _ => M - (intOf i).toNat)
      case atStart => exact ⟨0, rfl, by omega, own_lit w2 #[] 0 2 rfl (by omega), below_new _ _⟩
      case round =>
        obtain ⟨k, rfl, hk, hown, hb⟩ := hrel
        obtain ⟨Ao, co, rfl, hco, _⟩ := own_form hown
        have hbs := hb.size
        by_cases h1 : k < n1
        · obtain ⟨x, hx⟩ := get_some (xs := xd) (k := k) (by rw [HL1.out]; omega)
          obtain ⟨b, off, rfl, hbk, hcx⟩ := hr1.at_ (ints_get hx)
          have hcx1 := (hb.cell (p := ⟨b, off + k, none⟩) hbk).trans hcx
          have HX := Lib.hid (getD_some hx)
          clear hx hcx
          by_cases h2 : k < n2
          · obtain ⟨y, hy⟩ := get_some (xs := yd) (k := k) (by rw [HL2.out]; omega)
            obtain ⟨b', off', rfl, hbk', hcy⟩ := hr2.at_ (ints_get hy)
            have hcy1 := (hb.cell (p := ⟨b', off' + k, none⟩) hbk').trans hcy
            have HY := Lib.hid (getD_some hy)
            clear hy hcy
            go_wp2_with (at_builtin; go_must (refine wpList_appS Try.eltI rfl _ _ rfl (wr.alloc (.cells #[.int .i64 x, .int .i64 y] 2)) w2.heap.size _ (2 * k) _ (by rfl) (hown.alloc _) _ 2 2 [.int .i64 x, .int .i64 y] (by rfl) (rd_two wr x y _) (by intro u hu; simp at hu; rcases hu with rfl | rfl <;> rfl) (by simp; omega) (by omega) ?_); rintro A3 c3 w3 hown3 hb3)
            go_roundw
            case rel => exact ⟨k + 1, by go_num, by omega, by rw [wv_snoc HX.out HY.out] at hown3; exact hown3, (hb.alloc hbs _).trans hb3⟩
            case measure => simp [intOf]; omega
          · have HY := Lib.hid (getD_far (xs := yd) (k := k) (by rw [HL2.out]; omega))
            go_wp2_with (at_builtin; go_must (refine wpList_appS Try.eltI rfl _ _ rfl (wr.alloc (.cells #[.int .i64 x, .int .i64 0] 2)) w2.heap.size _ (2 * k) _ (by rfl) (hown.alloc _) _ 2 2 [.int .i64 x, .int .i64 0] (by rfl) (rd_two wr x 0 _) (by intro u hu; simp at hu; rcases hu with rfl | rfl <;> rfl) (by simp; omega) (by omega) ?_); rintro A3 c3 w3 hown3 hb3)
            go_roundw
            case rel => exact ⟨k + 1, by go_num, by omega, by rw [wv_snoc HX.out HY.out] at hown3; exact hown3, (hb.alloc hbs _).trans hb3⟩
            case measure => simp [intOf]; omega
        · have HX := Lib.hid (getD_far (xs := xd) (k := k) (by rw [HL1.out]; omega))
          by_cases h2 : k < n2
          · obtain ⟨y, hy⟩ := get_some (xs := yd) (k := k) (by rw [HL2.out]; omega)
            obtain ⟨b', off', rfl, hbk', hcy⟩ := hr2.at_ (ints_get hy)
            have hcy1 := (hb.cell (p := ⟨b', off' + k, none⟩) hbk').trans hcy
            have HY := Lib.hid (getD_some hy)
            clear hy hcy
            go_wp2_with (at_builtin; go_must (refine wpList_appS Try.eltI rfl _ _ rfl (wr.alloc (.cells #[.int .i64 0, .int .i64 y] 2)) w2.heap.size _ (2 * k) _ (by rfl) (hown.alloc _) _ 2 2 [.int .i64 0, .int .i64 y] (by rfl) (rd_two wr 0 y _) (by intro u hu; simp at hu; rcases hu with rfl | rfl <;> rfl) (by simp; omega) (by omega) ?_); rintro A3 c3 w3 hown3 hb3)
            go_roundw
            case rel => exact ⟨k + 1, by go_num, by omega, by rw [wv_snoc HX.out HY.out] at hown3; exact hown3, (hb.alloc hbs _).trans hb3⟩
            case measure => simp [intOf]; omega
          · have hkM : Hid (k = M) := Lib.hid (by rcases hM3.out with h | h <;> omega)
            have HBF := Lib.hid (HB2.out.trans (hb.mono HB2.out.size))
            go_wp2_with fail
            refine (l02Join_any _ _ _ _ _ (own_rd hown) (by omega) 10 (by omega) (by omega) (HIN.out k)).mono ?_
            rw [show (10 : Int).toNat = 10 from rfl, show joinVal 10 (wv xd yd k) = V by rw [HWV.out, hkM.out]]
            rintro e w3 ⟨A3, n3, c3, rfl, ho3, hb3⟩
            have HB3 := Lib.hid (HBF.out.trans (hb3.mono HBF.out.size))
            have HO3 := Lib.hid (own_base ho3 HBF.out.size)
            by_cases hfit : (limbs V).length ≤ 40
            · have hf := fit_yes hfit
              have hfb := hf.2.1
              have HFF := Lib.hid hf
              clear hf hfit
              go_wp2_with fail
              go_ret2
              rw [HF.out, HFF.out.2.2]
              exact ⟨A3, n3, c3, rfl, HO3.out, HB3.out⟩
            · have hf := fit_no hfit
              have hfb := hf.2.1
              have HFF := Lib.hid hf
              clear hf hfit
              go_wp2_with fail
              go_ret2
              rw [HF.out, HFF.out.2.2, HFF.out.1]
              exact ⟨none, 0, 0, rfl, own_nil _ _ _, HB3.out⟩
    · have hN2' : isNatB ys = false := by simpa using hN2
      have HF := Lib.hid (weaveNum_bad (xs := xs) (ys := ys) (fun h => hN2 h.2))
      clear hN2
      go_enter Try.func31, Try.ntmps31
      go_wp2_with fail
      refine (l02Is_any _ _ _ _ _ hr hn).mono ?_
      rw [hN1]
      rintro e w1 ⟨rfl, rfl⟩
      go_wp2_with fail
      refine (l02Is_any _ _ _ _ _ hr' hn').mono ?_
      rw [hN2']
      rintro e w1 ⟨rfl, rfl⟩
      go_wp2_with fail
      go_ret2
      rw [HF.out]
      exact ⟨none, 0, 0, rfl, own_nil _ _ _, Below.refl _ _⟩
  · have hN1' : isNatB xs = false := by simpa using hN1
    have HF := Lib.hid (weaveNum_bad (xs := xs) (ys := ys) (fun h => hN1 h.1))
    clear hN1
    go_enter Try.func31, Try.ntmps31
    go_wp2_with fail
    refine (l02Is_any _ _ _ _ _ hr hn).mono ?_
    rw [hN1']
    rintro e w1 ⟨rfl, rfl⟩
    go_wp2_with fail
    go_ret2
    rw [HF.out]
    exact ⟨none, 0, 0, rfl, own_nil _ _ _, Below.refl _ _⟩

theorem dgNum_ten {X : Nat} (h : isNatB (limbs X) = true) : dgNum (limbs X) 10 = (digs 10 X, 0) := by simp [dgNum, h, inB, natOf_limbs]

set_option maxHeartbeats 2000000 in
theorem implWeaveNaturals_any (w : World) (A : Option Addr) (n c : Nat) (xs : List Int) (hr : Rd w A n (ints xs)) (_hn : n ≤ 1099511627776) (A' : Option Addr) (n' c' : Nat) (ys : List Int) (hr' : Rd w A' n' (ints ys)) (_hn' : n' ≤ 1099511627776) (hs : n ≤ 1000000000) (hs' : n' ≤ 1000000000) :
    Calls Try.prog 32 #[.slice A n c, .slice A' n' c'] w (RetSI w 2 (ints (weaveNum xs ys).1) (weaveNum xs ys).2) := by
  have HL := Lib.hid (RdL.two (c := c) (c' := c') hr hs hr' hs' 22)
  by_cases hN : isNatB xs = true ∧ isNatB ys = true
  · obtain ⟨X, rfl, hX⟩ := isNat_limbs hN.1
    obtain ⟨Y, rfl, hY⟩ := isNat_limbs hN.2
    have hall : allNat [limbs X, limbs Y] = true := by simp [allNat, hN.1, hN.2]
    have HF := Lib.hid (weaveNum_ok hN.1 hN.2)
    have hnx : n ≤ 40 := by have h := hr.1; simp at h; omega
    have hny : n' ≤ 40 := by have h := hr'.1; simp at h; omega
    have HDX : Hid ((digs 10 X).length ≤ 800) := Lib.hid (by have := digs_len_limbs (b := 10) (by omega) X; omega)
    have HDY : Hid ((digs 10 Y).length ≤ 800) := Lib.hid (by have := digs_len_limbs (b := 10) (by omega) Y; omega)
    have HD1 := Lib.hid (dgNum_ten hN.1); have HD2 := Lib.hid (dgNum_ten hN.2)
    clear hN hX hY
    go_enter Try.func32, Try.ntmps32
    go_wp2_with fail
    refine (naturals_any _ _ _ _ _ HL.out (by omega)).mono ?_
    rw [hall]
    rintro e w1 ⟨rfl, rfl⟩
    have HB0 := Lib.hid (below_new w (.cells #[.slice A n c, .slice A' n' c'] 22))
    go_wp2_with fail
    refine (digitsOf_any _ _ _ _ _ (hr.alloc _) (by omega) 10).mono ?_
    rw [HD1.out]
    rintro e w1 ⟨A1, n1, c1, rfl, ho1, hb1⟩
    have HB1 := Lib.hid (HB0.out.trans (hb1.mono HB0.out.size))
    go_wp2_with fail
    refine (digitsOf_any _ _ _ _ _ ((hr'.alloc _).below hb1 (Nat.le_refl _)) (by omega) 10).mono ?_
    rw [HD2.out]
    rintro e w2 ⟨A2, n2, c2, rfl, ho2, hb2⟩
    have hr1 := (own_rd ho1).below hb2 (Nat.le_refl _)
    have hr2 := own_rd ho2
    have HB2 := Lib.hid (HB1.out.trans (hb2.mono HB1.out.size))
    have hl1 : (digs 10 X).length = n1 := by simpa using ho1.1
    have hl2 : (digs 10 Y).length = n2 := by simpa using ho2.1
    have hn1 : n1 ≤ 800 := by have := HDX.out; omega
    have hn2 : n2 ≤ 800 := by have := HDY.out; omega
    have HWV : Hid (weaveVal X Y = joinVal 10 (wv (digs 10 X) (digs 10 Y) (max n1 n2))) := Lib.hid (by rw [weaveVal, hl1, hl2])
    have HIN : Hid (∀ M, ∀ d ∈ wv (digs 10 X) (digs 10 Y) M, 0 ≤ d ∧ d < (10 : Int)) := Lib.hid (fun M => wv_in (by omega) (digs_in (b := 10) (by omega) X) (digs_in (b := 10) (by omega) Y) M)
    have HL1 := Lib.hid hl1; have HL2 := Lib.hid hl2
    clear hl1 hl2 ho1 ho2 hb1 hb2 HDX HDY hr hr' HD1 HD2 hall HB0 HB1
    generalize digs 10 X = xd at hr1 HL1 HWV HIN
    generalize digs 10 Y = yd at hr2 HL2 HWV HIN
    generalize weaveVal X Y = V at HF HWV
    have hM1 : n1 ≤ max n1 n2 := Nat.le_max_left _ _
    have hM2 : n2 ≤ max n1 n2 := Nat.le_max_right _ _
    have hM4 : Hid (max n1 n2 = max n1 n2) := Lib.hid rfl
    have hMb : max n1 n2 ≤ 800 := by omega
    have HMM : ∃ M, Hid (M = max n1 n2) := ⟨_, Lib.hid rfl⟩
    obtain ⟨M, HM⟩ := HMM
    rw [← HM.out] at HWV hM1 hM2 hMb
    clear hM4
    go_wp2_with (at_make; go_must (refine wpList_mk Try.eltI rfl _ _ rfl _ _ _ (2 * M) (by rfl) (by rfl) (by have := HM.out; omega) (by have := HM.out; omega) (by omega) ?_); rintro w3 hown3 hb3 hs3)
    all_goals
      rw [show List.replicate (2 * M) (Value.int .i64 0) = ints (wv (xd.take 0) [] M) by rw [List.take_zero, ← wv_zs]; simp only [zs, ints, List.map_replicate]] at hown3
      clear hs3
      have hr1' := hr1.below hb3 (Nat.le_refl _)
      have hr2' := hr2.below hb3 (Nat.le_refl _)
      go_loopw [39] (fun i wr => ∃ (k : Nat), i = .int .i64 k ∧ k ≤ n1 ∧ wr.ownsRow w2.heap.size 2 1 (.slice (some ⟨w2.heap.size, 0, none⟩) (2 * M) (2 * M)) (2 * M) (ints (wv (xd.take k) [] M)) ∧ Below w2.heap.size w2 wr) (fun i _ => n1 - (intOf i).toNat)
      case atStart => exact ⟨0, rfl, by omega, hown3, hb3⟩
      case round =>
        obtain ⟨k, rfl, hk, hown, hb⟩ := hrel
        clear hown3 hr1' hr2' hb3
        by_cases h1 : k < n1
        · obtain ⟨x, hx⟩ := get_some (xs := xd) (k := k) (by rw [HL1.out]; omega)
          obtain ⟨b, off, rfl, hbk, hcx⟩ := hr1.at_ (ints_get hx)
          have hcx1 := (hb.cell (p := ⟨b, off + k, none⟩) hbk).trans hcx
          obtain ⟨g, hg, _, _, hc2, hc3⟩ := own_get hown (ints_get (wv_even (xd.take k) [] M k (by omega)))
          obtain rfl : w2.heap.size = g := by simpa using hg
          have HS := Lib.hid (own_put hown (2 * k) (.int .i64 x))
          have HX := Lib.hid hx; have HB := Lib.hid hb
          clear hx hcx hown hb hg
          go_wp2_with fail
          go_roundw
          case rel =>
            refine ⟨k + 1, by go_num, by omega, ?_, HB.out.setCell (p := ⟨w2.heap.size, 2 * k, none⟩) (Nat.le_refl _) _⟩
            rw [← wv_set_even (by omega) HX.out]
            have h := HS.out
            rwa [show (ints (wv (xd.take k) [] M)).set (2 * k) (.int .i64 x) = ints ((wv (xd.take k) [] M).set (2 * k) x) by simp only [ints, List.map_set]] at h
          case measure => simp [intOf]; omega
        · rw [List.take_of_length_le (by rw [HL1.out]; omega)] at hown
          obtain ⟨wo, rfl⟩ : ∃ wo : World, wo = wr := ⟨_, rfl⟩
          go_wp2_with fail
          go_loopw [52] (fun i wr => ∃ (k : Nat), i = .int .i64 k ∧ k ≤ n2 ∧ wr.ownsRow w2.heap.size 2 1 (.slice (some ⟨w2.heap.size, 0, none⟩) (2 * M) (2 * M)) (2 * M) (ints (wv xd (yd.take k) M)) ∧ Below w2.heap.size w2 wr) (fun i _ => n2 - (intOf i).toNat)
          case atStart => exact ⟨0, rfl, by omega, by simpa using hown, hb⟩
          case round =>
            clear hown hb
            obtain ⟨j, rfl, hj, hown, hb⟩ := hrel
            by_cases h2 : j < n2
            · obtain ⟨y, hy⟩ := get_some (xs := yd) (k := j) (by rw [HL2.out]; omega)
              obtain ⟨b, off, rfl, hbk, hcx⟩ := hr2.at_ (ints_get hy)
              have hcx1 := (hb.cell (p := ⟨b, off + j, none⟩) hbk).trans hcx
              obtain ⟨g, hg, _, _, hc2, hc3⟩ := own_get hown (ints_get (wv_odd xd (yd.take j) M j (by omega)))
              obtain rfl : w2.heap.size = g := by simpa using hg
              have HS := Lib.hid (own_put hown (2 * j + 1) (.int .i64 y))
              have HY := Lib.hid hy; have HB := Lib.hid hb
              clear hy hcx hown hb hg
              go_wp2_with fail
              go_roundw
              case rel =>
                refine ⟨j + 1, by go_num, by omega, ?_, HB.out.setCell (p := ⟨w2.heap.size, 2 * j + 1, none⟩) (Nat.le_refl _) _⟩
                rw [← wv_set_odd (by omega) HY.out]
                have h := HS.out
                rwa [show (ints (wv xd (yd.take j) M)).set (2 * j + 1) (.int .i64 y) = ints ((wv xd (yd.take j) M).set (2 * j + 1) y) by simp only [ints, List.map_set]] at h
              case measure => simp [intOf]; omega
            · rw [List.take_of_length_le (by rw [HL2.out]; omega)] at hown
              have HBF := Lib.hid (HB2.out.trans (hb.mono HB2.out.size))
              have HIM := Lib.hid (HIN.out M)
              go_wp2_with fail
              refine (fromDigits_any _ _ _ _ _ (own_rd hown) (by omega) 10 (by omega) (by omega) HIM.out).mono ?_
              rw [show (10 : Int).toNat = 10 from rfl]
              rintro e w4 ⟨A4, n4, c4, rfl, ho4, hb4⟩
              have hn4 : n4 ≤ 1600 := own_len_le ho4 (Nat.le_trans (joinVal_len 10 (by omega) _ HIM.out) (by rw [wv_len]; omega))
              rw [← HWV.out] at ho4
              go_wp2_with fail
              refine (limited_any _ _ _ _ _ _ ho4 (by omega)).mono ?_
              rintro e w5 ⟨⟨A5, n5, c5, rfl, ho5⟩, rfl⟩
              go_wp2_with fail
              go_ret2
              rw [HF.out]
              exact ⟨A5, n5, c5, rfl, own_base ho5 HBF.out.size, HBF.out.trans (hb4.mono HBF.out.size)⟩
  · have hall : allNat [xs, ys] = false := by
      simp only [allNat, List.all_cons, List.all_nil, Bool.and_true]
      cases h1 : isNatB xs <;> cases h2 : isNatB ys <;> simp_all
    have HF := Lib.hid (weaveNum_bad hN)
    clear hN
    go_enter Try.func32, Try.ntmps32
    go_wp2_with fail
    refine (naturals_any _ _ _ _ _ HL.out (by omega)).mono ?_
    rw [hall]
    rintro e w1 ⟨rfl, rfl⟩
    go_wp2_with fail
    go_ret2
    rw [HF.out]
    exact ⟨none, 0, 0, rfl, own_nil _ _ _, below_new _ _⟩

set_option maxHeartbeats 4000000 in
set_option maxRecDepth 100000 in
theorem lawWeaveNaturals (w : World) (A0 : Option Addr) (n0 c0 : Nat) (x0 : List Int) (hr0 : Rd w A0 n0 (ints x0)) (A1 : Option Addr) (n1 c1 : Nat) (x1 : List Int) (hr1 : Rd w A1 n1 (ints x1)) :
    Calls Try.prog 9 #[.slice A0 n0 c0, .slice A1 n1 c1] w fun e w' => e = .returned (.bool true) ∧ Below w.heap.size w w' := by
  by_cases hbig0 : n0 ≤ 1048576
  rotate_left
  · go_enter Try.func9, Try.ntmps9
    go_wp2_with fail
    go_ret
    exact ⟨rfl, Below.refl _ _⟩
  by_cases hbig1 : n1 ≤ 1048576
  rotate_left
  · go_enter Try.func9, Try.ntmps9
    go_wp2_with fail
    go_ret
    exact ⟨rfl, Below.refl _ _⟩
  have hS : ∀ (w : World) (A0 : Option Addr) (n0 c0 : Nat) (h0 : Rd w A0 n0 (ints x0)) (hn0 : n0 ≤ 1000000000) (A1 : Option Addr) (n1 c1 : Nat) (h1 : Rd w A1 n1 (ints x1)) (hn1 : n1 ≤ 1000000000), Calls Try.prog 31 #[.slice A0 n0 c0, .slice A1 n1 c1] w (RetSI w 2 (ints ((weaveNum x0 x1).1)) ((weaveNum x0 x1).2)) := fun w A0 n0 c0 h0 hn0 A1 n1 c1 h1 hn1 => specWeaveNaturals_any w A0 n0 c0 x0 h0 (by omega) A1 n1 c1 x1 h1 (by omega)
  have hI : ∀ (w : World) (A0 : Option Addr) (n0 c0 : Nat) (h0 : Rd w A0 n0 (ints x0)) (hn0 : n0 ≤ 1000000000) (A1 : Option Addr) (n1 c1 : Nat) (h1 : Rd w A1 n1 (ints x1)) (hn1 : n1 ≤ 1000000000), Calls Try.prog 32 #[.slice A0 n0 c0, .slice A1 n1 c1] w (RetSI w 2 (ints ((weaveNum x0 x1).1)) ((weaveNum x0 x1).2)) := fun w A0 n0 c0 h0 hn0 A1 n1 c1 h1 hn1 => implWeaveNaturals_any w A0 n0 c0 x0 h0 (by omega) A1 n1 c1 x1 h1 (by omega) hn0 hn1
  have HRL0 : Hid (((weaveNum x0 x1).1).length ≤ 1000000) := Lib.hid (weaveNum_len _ _)
  have HS := Lib.hid hS; have HI := Lib.hid hI
  clear hS hI
  generalize (weaveNum x0 x1).1 = r0 at HS HI HRL0
  generalize (weaveNum x0 x1).2 = r1 at HS HI
  have HXL0 : Hid (x0.length = n0) := Lib.hid (by simpa using hr0.1)
  have HXL1 : Hid (x1.length = n1) := Lib.hid (by simpa using hr1.1)
  have HB := Below.refl w.heap.size w
  go_enter Try.func9, Try.ntmps9
  go_wp2_with fail
  refine (toInt64S_any _ _ _ _ x0 (hr0.below HB (Nat.le_refl _)) (by omega)).mono ?_
  rintro e v1 ⟨Ao1, no1, co1, rfl, hoo1, hbv1⟩
  have hno1 : no1 ≤ 1048576 := by have := hoo1.1; simp at this; have := HXL0.out; omega
  replace HB := HB.trans (hbv1.mono HB.size)
  have hrgo1 : Hid (∀ k, (Value.slice Ao1 no1 co1).ownBlock = some k → w.heap.size ≤ k ∧ k < v1.heap.size) := Lib.hid fun k hk => hoo1.lt k hk
  have hszv1 := hbv1.size
  go_wp2_with fail
  refine (toInt64S_any _ _ _ _ x1 (hr1.below HB (Nat.le_refl _)) (by omega)).mono ?_
  rintro e v2 ⟨Ao2, no2, co2, rfl, hoo2, hbv2⟩
  have hno2 : no2 ≤ 1048576 := by have := hoo2.1; simp at this; have := HXL1.out; omega
  replace hoo1 := own_below hoo1 hbv2 (Nat.le_refl _)
  replace HB := HB.trans (hbv2.mono HB.size)
  have hrgo2 : Hid (∀ k, (Value.slice Ao2 no2 co2).ownBlock = some k → v1.heap.size ≤ k ∧ k < v2.heap.size) := Lib.hid fun k hk => hoo2.lt k hk
  have hszv2 := hbv2.size
  go_wp2_with fail
  refine (HS.out _ _ _ _ (own_rd hoo1) (by omega) _ _ _ (own_rd hoo2) (by omega)).mono ?_
  rintro e v3 ⟨Ao3, no3, co3, rfl, hoo3, hbv3⟩
  have hno3 : no3 ≤ 1000000 := by have := hoo3.1; simp at this; have := HRL0.out; omega
  replace hoo1 := own_below hoo1 hbv3 (Nat.le_refl _)
  replace hoo2 := own_below hoo2 hbv3 (Nat.le_refl _)
  replace HB := HB.trans (hbv3.mono HB.size)
  have hrgo3 : Hid (∀ k, (Value.slice Ao3 no3 co3).ownBlock = some k → v2.heap.size ≤ k ∧ k < v3.heap.size) := Lib.hid fun k hk => hoo3.lt k hk
  have hszv3 := hbv3.size
  go_wp2_with fail
  refine (toInt64S_any _ _ _ _ x0 (hr0.below HB (Nat.le_refl _)) (by omega)).mono ?_
  rintro e v4 ⟨Ao4, no4, co4, rfl, hoo4, hbv4⟩
  have hno4 : no4 ≤ 1048576 := by have := hoo4.1; simp at this; have := HXL0.out; omega
  replace hoo1 := own_below hoo1 hbv4 (Nat.le_refl _)
  replace hoo2 := own_below hoo2 hbv4 (Nat.le_refl _)
  replace hoo3 := own_below hoo3 hbv4 (Nat.le_refl _)
  replace HB := HB.trans (hbv4.mono HB.size)
  have hrgo4 : Hid (∀ k, (Value.slice Ao4 no4 co4).ownBlock = some k → v3.heap.size ≤ k ∧ k < v4.heap.size) := Lib.hid fun k hk => hoo4.lt k hk
  have hszv4 := hbv4.size
  go_wp2_with fail
  refine (toInt64S_any _ _ _ _ x1 (hr1.below HB (Nat.le_refl _)) (by omega)).mono ?_
  rintro e v5 ⟨Ao5, no5, co5, rfl, hoo5, hbv5⟩
  have hno5 : no5 ≤ 1048576 := by have := hoo5.1; simp at this; have := HXL1.out; omega
  replace hoo1 := own_below hoo1 hbv5 (Nat.le_refl _)
  replace hoo2 := own_below hoo2 hbv5 (Nat.le_refl _)
  replace hoo3 := own_below hoo3 hbv5 (Nat.le_refl _)
  replace hoo4 := own_below hoo4 hbv5 (Nat.le_refl _)
  replace HB := HB.trans (hbv5.mono HB.size)
  have hrgo5 : Hid (∀ k, (Value.slice Ao5 no5 co5).ownBlock = some k → v4.heap.size ≤ k ∧ k < v5.heap.size) := Lib.hid fun k hk => hoo5.lt k hk
  have hszv5 := hbv5.size
  go_wp2_with fail
  refine (HI.out _ _ _ _ (own_rd hoo4) (by omega) _ _ _ (own_rd hoo5) (by omega)).mono ?_
  rintro e v6 ⟨Ao6, no6, co6, rfl, hoo6, hbv6⟩
  have hno6 : no6 ≤ 1000000 := by have := hoo6.1; simp at this; have := HRL0.out; omega
  replace hoo1 := own_below hoo1 hbv6 (Nat.le_refl _)
  replace hoo2 := own_below hoo2 hbv6 (Nat.le_refl _)
  replace hoo3 := own_below hoo3 hbv6 (Nat.le_refl _)
  replace hoo4 := own_below hoo4 hbv6 (Nat.le_refl _)
  replace hoo5 := own_below hoo5 hbv6 (Nat.le_refl _)
  replace HB := HB.trans (hbv6.mono HB.size)
  have hrgo6 : Hid (∀ k, (Value.slice Ao6 no6 co6).ownBlock = some k → v5.heap.size ≤ k ∧ k < v6.heap.size) := Lib.hid fun k hk => hoo6.lt k hk
  have hszv6 := hbv6.size
  go_wp2_with fail
  refine (eq_same _ _ _ _ _ (own_rd hoo6) (by omega) _ _ _ (own_rd hoo3)).mono ?_
  rintro e v7 ⟨rfl, hbv7⟩
  replace hoo1 := own_below hoo1 hbv7 (Nat.le_refl _)
  replace hoo2 := own_below hoo2 hbv7 (Nat.le_refl _)
  replace hoo3 := own_below hoo3 hbv7 (Nat.le_refl _)
  replace hoo4 := own_below hoo4 hbv7 (Nat.le_refl _)
  replace hoo5 := own_below hoo5 hbv7 (Nat.le_refl _)
  replace hoo6 := own_below hoo6 hbv7 (Nat.le_refl _)
  replace HB := HB.trans (hbv7.mono HB.size)
  have hszv7 := hbv7.size
  go_wp2_with fail
  refine (toInt64S_any _ _ _ _ x0 (hr0.below HB (Nat.le_refl _)) (by omega)).mono ?_
  rintro e v8 ⟨Ao7, no7, co7, rfl, hoo7, hbv8⟩
  have hno7 : no7 ≤ 1048576 := by have := hoo7.1; simp at this; have := HXL0.out; omega
  replace hoo1 := own_below hoo1 hbv8 (Nat.le_refl _)
  replace hoo2 := own_below hoo2 hbv8 (Nat.le_refl _)
  replace hoo3 := own_below hoo3 hbv8 (Nat.le_refl _)
  replace hoo4 := own_below hoo4 hbv8 (Nat.le_refl _)
  replace hoo5 := own_below hoo5 hbv8 (Nat.le_refl _)
  replace hoo6 := own_below hoo6 hbv8 (Nat.le_refl _)
  replace HB := HB.trans (hbv8.mono HB.size)
  have hrgo7 : Hid (∀ k, (Value.slice Ao7 no7 co7).ownBlock = some k → v7.heap.size ≤ k ∧ k < v8.heap.size) := Lib.hid fun k hk => hoo7.lt k hk
  have hszv8 := hbv8.size
  go_wp2_with fail
  refine (eq_same _ _ _ _ _ (own_rd hoo4) (by omega) _ _ _ (own_rd hoo7)).mono ?_
  rintro e v9 ⟨rfl, hbv9⟩
  replace hoo1 := own_below hoo1 hbv9 (Nat.le_refl _)
  replace hoo2 := own_below hoo2 hbv9 (Nat.le_refl _)
  replace hoo3 := own_below hoo3 hbv9 (Nat.le_refl _)
  replace hoo4 := own_below hoo4 hbv9 (Nat.le_refl _)
  replace hoo5 := own_below hoo5 hbv9 (Nat.le_refl _)
  replace hoo6 := own_below hoo6 hbv9 (Nat.le_refl _)
  replace hoo7 := own_below hoo7 hbv9 (Nat.le_refl _)
  replace HB := HB.trans (hbv9.mono HB.size)
  have hszv9 := hbv9.size
  go_wp2_with fail
  refine (toInt64S_any _ _ _ _ x1 (hr1.below HB (Nat.le_refl _)) (by omega)).mono ?_
  rintro e v10 ⟨Ao8, no8, co8, rfl, hoo8, hbv10⟩
  have hno8 : no8 ≤ 1048576 := by have := hoo8.1; simp at this; have := HXL1.out; omega
  replace hoo1 := own_below hoo1 hbv10 (Nat.le_refl _)
  replace hoo2 := own_below hoo2 hbv10 (Nat.le_refl _)
  replace hoo3 := own_below hoo3 hbv10 (Nat.le_refl _)
  replace hoo4 := own_below hoo4 hbv10 (Nat.le_refl _)
  replace hoo5 := own_below hoo5 hbv10 (Nat.le_refl _)
  replace hoo6 := own_below hoo6 hbv10 (Nat.le_refl _)
  replace hoo7 := own_below hoo7 hbv10 (Nat.le_refl _)
  replace HB := HB.trans (hbv10.mono HB.size)
  have hrgo8 : Hid (∀ k, (Value.slice Ao8 no8 co8).ownBlock = some k → v9.heap.size ≤ k ∧ k < v10.heap.size) := Lib.hid fun k hk => hoo8.lt k hk
  have hszv10 := hbv10.size
  go_wp2_with fail
  refine (eq_same _ _ _ _ _ (own_rd hoo5) (by omega) _ _ _ (own_rd hoo8)).mono ?_
  rintro e v11 ⟨rfl, hbv11⟩
  replace hoo1 := own_below hoo1 hbv11 (Nat.le_refl _)
  replace hoo2 := own_below hoo2 hbv11 (Nat.le_refl _)
  replace hoo3 := own_below hoo3 hbv11 (Nat.le_refl _)
  replace hoo4 := own_below hoo4 hbv11 (Nat.le_refl _)
  replace hoo5 := own_below hoo5 hbv11 (Nat.le_refl _)
  replace hoo6 := own_below hoo6 hbv11 (Nat.le_refl _)
  replace hoo7 := own_below hoo7 hbv11 (Nat.le_refl _)
  replace hoo8 := own_below hoo8 hbv11 (Nat.le_refl _)
  replace HB := HB.trans (hbv11.mono HB.size)
  have hszv11 := hbv11.size
  go_wp2_with fail
  refine (markInt64S_any _ _ _ _ _ _ hoo4 (by omega) (1) (by omega) (by omega)).mono ?_
  rintro e v12 ⟨rfl, hmo4, hgv12⟩
  replace hoo1 := mark_keep hoo1 hgv12 (fun k h1 h2 => by have := hrgo1.out k h1; have := hrgo4.out k h2; omega)
  replace hoo2 := mark_keep hoo2 hgv12 (fun k h1 h2 => by have := hrgo2.out k h1; have := hrgo4.out k h2; omega)
  replace hoo3 := mark_keep hoo3 hgv12 (fun k h1 h2 => by have := hrgo3.out k h1; have := hrgo4.out k h2; omega)
  replace hoo5 := mark_keep hoo5 hgv12 (fun k h1 h2 => by have := hrgo5.out k h1; have := hrgo4.out k h2; omega)
  replace hoo6 := mark_keep hoo6 hgv12 (fun k h1 h2 => by have := hrgo6.out k h1; have := hrgo4.out k h2; omega)
  replace hoo7 := mark_keep hoo7 hgv12 (fun k h1 h2 => by have := hrgo7.out k h1; have := hrgo4.out k h2; omega)
  replace hoo8 := mark_keep hoo8 hgv12 (fun k h1 h2 => by have := hrgo8.out k h1; have := hrgo4.out k h2; omega)
  replace HB := HB.grown hgv12 HB.size (fun k hk => by have := hrgo4.out k hk; omega)
  replace hoo4 := hmo4
  have hszv12 := hgv12.size
  go_wp2_with fail
  refine (markInt64S_any _ _ _ _ _ _ hoo5 (by omega) (1 + (no4 : Int)) (by omega) (by omega)).mono ?_
  rintro e v13 ⟨rfl, hmo5, hgv13⟩
  replace hoo1 := mark_keep hoo1 hgv13 (fun k h1 h2 => by have := hrgo1.out k h1; have := hrgo5.out k h2; omega)
  replace hoo2 := mark_keep hoo2 hgv13 (fun k h1 h2 => by have := hrgo2.out k h1; have := hrgo5.out k h2; omega)
  replace hoo3 := mark_keep hoo3 hgv13 (fun k h1 h2 => by have := hrgo3.out k h1; have := hrgo5.out k h2; omega)
  replace hoo4 := mark_keep hoo4 hgv13 (fun k h1 h2 => by have := hrgo4.out k h1; have := hrgo5.out k h2; omega)
  replace hoo6 := mark_keep hoo6 hgv13 (fun k h1 h2 => by have := hrgo6.out k h1; have := hrgo5.out k h2; omega)
  replace hoo7 := mark_keep hoo7 hgv13 (fun k h1 h2 => by have := hrgo7.out k h1; have := hrgo5.out k h2; omega)
  replace hoo8 := mark_keep hoo8 hgv13 (fun k h1 h2 => by have := hrgo8.out k h1; have := hrgo5.out k h2; omega)
  replace HB := HB.grown hgv13 HB.size (fun k hk => by have := hrgo5.out k hk; omega)
  replace hoo5 := hmo5
  have hszv13 := hgv13.size
  go_wp2_with fail
  refine (eq_same _ _ _ _ _ (own_rd hoo6) (by omega) _ _ _ (own_rd hoo3)).mono ?_
  rintro e v14 ⟨rfl, hbv14⟩
  replace hoo1 := own_below hoo1 hbv14 (Nat.le_refl _)
  replace hoo2 := own_below hoo2 hbv14 (Nat.le_refl _)
  replace hoo3 := own_below hoo3 hbv14 (Nat.le_refl _)
  replace hoo4 := own_below hoo4 hbv14 (Nat.le_refl _)
  replace hoo5 := own_below hoo5 hbv14 (Nat.le_refl _)
  replace hoo6 := own_below hoo6 hbv14 (Nat.le_refl _)
  replace hoo7 := own_below hoo7 hbv14 (Nat.le_refl _)
  replace hoo8 := own_below hoo8 hbv14 (Nat.le_refl _)
  replace HB := HB.trans (hbv14.mono HB.size)
  have hszv14 := hbv14.size
  go_wp2_with fail
  refine (markInt64S_any _ _ _ _ _ _ hoo6 (by omega) (1) (by omega) (by omega)).mono ?_
  rintro e v15 ⟨rfl, hmo6, hgv15⟩
  replace hoo1 := mark_keep hoo1 hgv15 (fun k h1 h2 => by have := hrgo1.out k h1; have := hrgo6.out k h2; omega)
  replace hoo2 := mark_keep hoo2 hgv15 (fun k h1 h2 => by have := hrgo2.out k h1; have := hrgo6.out k h2; omega)
  replace hoo3 := mark_keep hoo3 hgv15 (fun k h1 h2 => by have := hrgo3.out k h1; have := hrgo6.out k h2; omega)
  replace hoo4 := mark_keep hoo4 hgv15 (fun k h1 h2 => by have := hrgo4.out k h1; have := hrgo6.out k h2; omega)
  replace hoo5 := mark_keep hoo5 hgv15 (fun k h1 h2 => by have := hrgo5.out k h1; have := hrgo6.out k h2; omega)
  replace hoo7 := mark_keep hoo7 hgv15 (fun k h1 h2 => by have := hrgo7.out k h1; have := hrgo6.out k h2; omega)
  replace hoo8 := mark_keep hoo8 hgv15 (fun k h1 h2 => by have := hrgo8.out k h1; have := hrgo6.out k h2; omega)
  replace HB := HB.grown hgv15 HB.size (fun k hk => by have := hrgo6.out k hk; omega)
  replace hoo6 := hmo6
  have hszv15 := hgv15.size
  go_wp2_with fail
  refine (heldInt64S_any _ _ _ _ (1) (own_rd hoo6) (by omega) (by omega) (by omega)).mono ?_
  rintro e v16 ⟨rfl, hbv16⟩
  replace hoo1 := own_below hoo1 hbv16 (Nat.le_refl _)
  replace hoo2 := own_below hoo2 hbv16 (Nat.le_refl _)
  replace hoo3 := own_below hoo3 hbv16 (Nat.le_refl _)
  replace hoo4 := own_below hoo4 hbv16 (Nat.le_refl _)
  replace hoo5 := own_below hoo5 hbv16 (Nat.le_refl _)
  replace hoo6 := own_below hoo6 hbv16 (Nat.le_refl _)
  replace hoo7 := own_below hoo7 hbv16 (Nat.le_refl _)
  replace hoo8 := own_below hoo8 hbv16 (Nat.le_refl _)
  replace HB := HB.trans (hbv16.mono HB.size)
  have hszv16 := hbv16.size
  go_wp2_with fail
  refine (toInt64S_any _ _ _ _ x0 (hr0.below HB (Nat.le_refl _)) (by omega)).mono ?_
  rintro e v17 ⟨Ao9, no9, co9, rfl, hoo9, hbv17⟩
  have hno9 : no9 ≤ 1048576 := by have := hoo9.1; simp at this; have := HXL0.out; omega
  replace hoo1 := own_below hoo1 hbv17 (Nat.le_refl _)
  replace hoo2 := own_below hoo2 hbv17 (Nat.le_refl _)
  replace hoo3 := own_below hoo3 hbv17 (Nat.le_refl _)
  replace hoo4 := own_below hoo4 hbv17 (Nat.le_refl _)
  replace hoo5 := own_below hoo5 hbv17 (Nat.le_refl _)
  replace hoo6 := own_below hoo6 hbv17 (Nat.le_refl _)
  replace hoo7 := own_below hoo7 hbv17 (Nat.le_refl _)
  replace hoo8 := own_below hoo8 hbv17 (Nat.le_refl _)
  replace HB := HB.trans (hbv17.mono HB.size)
  have hrgo9 : Hid (∀ k, (Value.slice Ao9 no9 co9).ownBlock = some k → v16.heap.size ≤ k ∧ k < v17.heap.size) := Lib.hid fun k hk => hoo9.lt k hk
  have hszv17 := hbv17.size
  go_wp2_with fail
  refine (toInt64S_any _ _ _ _ x1 (hr1.below HB (Nat.le_refl _)) (by omega)).mono ?_
  rintro e v18 ⟨Ao10, no10, co10, rfl, hoo10, hbv18⟩
  have hno10 : no10 ≤ 1048576 := by have := hoo10.1; simp at this; have := HXL1.out; omega
  replace hoo1 := own_below hoo1 hbv18 (Nat.le_refl _)
  replace hoo2 := own_below hoo2 hbv18 (Nat.le_refl _)
  replace hoo3 := own_below hoo3 hbv18 (Nat.le_refl _)
  replace hoo4 := own_below hoo4 hbv18 (Nat.le_refl _)
  replace hoo5 := own_below hoo5 hbv18 (Nat.le_refl _)
  replace hoo6 := own_below hoo6 hbv18 (Nat.le_refl _)
  replace hoo7 := own_below hoo7 hbv18 (Nat.le_refl _)
  replace hoo8 := own_below hoo8 hbv18 (Nat.le_refl _)
  replace hoo9 := own_below hoo9 hbv18 (Nat.le_refl _)
  replace HB := HB.trans (hbv18.mono HB.size)
  have hrgo10 : Hid (∀ k, (Value.slice Ao10 no10 co10).ownBlock = some k → v17.heap.size ≤ k ∧ k < v18.heap.size) := Lib.hid fun k hk => hoo10.lt k hk
  have hszv18 := hbv18.size
  go_wp2_with fail
  refine (HI.out _ _ _ _ (own_rd hoo9) (by omega) _ _ _ (own_rd hoo10) (by omega)).mono ?_
  rintro e v19 ⟨Ao11, no11, co11, rfl, hoo11, hbv19⟩
  have hno11 : no11 ≤ 1000000 := by have := hoo11.1; simp at this; have := HRL0.out; omega
  replace hoo1 := own_below hoo1 hbv19 (Nat.le_refl _)
  replace hoo2 := own_below hoo2 hbv19 (Nat.le_refl _)
  replace hoo3 := own_below hoo3 hbv19 (Nat.le_refl _)
  replace hoo4 := own_below hoo4 hbv19 (Nat.le_refl _)
  replace hoo5 := own_below hoo5 hbv19 (Nat.le_refl _)
  replace hoo6 := own_below hoo6 hbv19 (Nat.le_refl _)
  replace hoo7 := own_below hoo7 hbv19 (Nat.le_refl _)
  replace hoo8 := own_below hoo8 hbv19 (Nat.le_refl _)
  replace hoo9 := own_below hoo9 hbv19 (Nat.le_refl _)
  replace hoo10 := own_below hoo10 hbv19 (Nat.le_refl _)
  replace HB := HB.trans (hbv19.mono HB.size)
  have hrgo11 : Hid (∀ k, (Value.slice Ao11 no11 co11).ownBlock = some k → v18.heap.size ≤ k ∧ k < v19.heap.size) := Lib.hid fun k hk => hoo11.lt k hk
  have hszv19 := hbv19.size
  go_wp2_with fail
  refine (eq_same _ _ _ _ _ (own_rd hoo11) (by omega) _ _ _ (own_rd hoo3)).mono ?_
  rintro e v20 ⟨rfl, hbv20⟩
  replace hoo1 := own_below hoo1 hbv20 (Nat.le_refl _)
  replace hoo2 := own_below hoo2 hbv20 (Nat.le_refl _)
  replace hoo3 := own_below hoo3 hbv20 (Nat.le_refl _)
  replace hoo4 := own_below hoo4 hbv20 (Nat.le_refl _)
  replace hoo5 := own_below hoo5 hbv20 (Nat.le_refl _)
  replace hoo6 := own_below hoo6 hbv20 (Nat.le_refl _)
  replace hoo7 := own_below hoo7 hbv20 (Nat.le_refl _)
  replace hoo8 := own_below hoo8 hbv20 (Nat.le_refl _)
  replace hoo9 := own_below hoo9 hbv20 (Nat.le_refl _)
  replace hoo10 := own_below hoo10 hbv20 (Nat.le_refl _)
  replace hoo11 := own_below hoo11 hbv20 (Nat.le_refl _)
  replace HB := HB.trans (hbv20.mono HB.size)
  have hszv20 := hbv20.size
  go_wp2_with fail
  refine (heldInt64S_any _ _ _ _ (1) (own_rd hoo6) (by omega) (by omega) (by omega)).mono ?_
  rintro e v21 ⟨rfl, hbv21⟩
  replace hoo1 := own_below hoo1 hbv21 (Nat.le_refl _)
  replace hoo2 := own_below hoo2 hbv21 (Nat.le_refl _)
  replace hoo3 := own_below hoo3 hbv21 (Nat.le_refl _)
  replace hoo4 := own_below hoo4 hbv21 (Nat.le_refl _)
  replace hoo5 := own_below hoo5 hbv21 (Nat.le_refl _)
  replace hoo6 := own_below hoo6 hbv21 (Nat.le_refl _)
  replace hoo7 := own_below hoo7 hbv21 (Nat.le_refl _)
  replace hoo8 := own_below hoo8 hbv21 (Nat.le_refl _)
  replace hoo9 := own_below hoo9 hbv21 (Nat.le_refl _)
  replace hoo10 := own_below hoo10 hbv21 (Nat.le_refl _)
  replace hoo11 := own_below hoo11 hbv21 (Nat.le_refl _)
  replace HB := HB.trans (hbv21.mono HB.size)
  have hszv21 := hbv21.size
  go_wp2_with fail
  go_ret
  exact ⟨rfl, HB⟩
end Go.Proofs.Ytdpkcnjoklnoeaa
