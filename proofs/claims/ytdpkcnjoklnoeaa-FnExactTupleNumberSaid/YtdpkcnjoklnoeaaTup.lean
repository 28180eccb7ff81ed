/- TupleOf: the reference's function and the program's give the same lists and code. -/
import Derived.Test.YtdpkcnjoklnoeaaSeq
namespace Go.Proofs.Ytdpkcnjoklnoeaa
open Go.RowKit Limb

theorem Inner.init {w : World} {lo hi : Nat} {us : List Value} {xss : List (List Int)} {u : Value} {xs : List Int} (h : Inner w lo hi (us ++ [u]) (xss ++ [xs])) : Inner w lo hi us xss := by
  obtain ⟨h1, h2, h3⟩ := h
  have hl : us.length = xss.length := by simpa using h1
  refine ⟨hl, fun i v ys hv hy => h2 i v ys ?_ ?_, fun i j v v' hv hv' => h3 i j v v' ?_ ?_⟩
  · rw [List.getElem?_append_left (List.getElem?_eq_some_iff.1 hv).1]; exact hv
  · rw [List.getElem?_append_left (List.getElem?_eq_some_iff.1 hy).1]; exact hy
  · rw [List.getElem?_append_left (List.getElem?_eq_some_iff.1 hv).1]; exact hv
  · rw [List.getElem?_append_left (List.getElem?_eq_some_iff.1 hv').1]; exact hv'
theorem Inner.last {w : World} {lo hi n c : Nat} {us : List Value} {xss : List (List Int)} {A : Option Addr} {xs : List Int} (h : Inner w lo hi (us ++ [.slice A n c]) (xss ++ [xs])) : w.ownsRow lo 2 1 (.slice A n c) n (ints xs) := by
  obtain ⟨h1, h2, h3⟩ := h
  have hl : us.length = xss.length := by simpa using h1
  obtain ⟨A', n', c', e, _, ho, _⟩ := h2 us.length (.slice A n c) xs (by simp) (by rw [hl]; simp)
  injection e with e1 e2 e3
  subst e1 e2 e3
  exact ho

/-- The tuple of k + 1 numbers with a number. -/
def tupGo : Nat → Nat → List Nat
  | 0, n => [n]
  | k + 1, n => unpA n :: tupGo k (unpB n)
def tupNum (xs : List Int) (k : Int) : List (List Int) × Int := if isNatB xs = true then (if inB k 1 8 = true then ((tupGo (k - 1).toNat (natOf xs)).map limbs, 0) else ([], 2)) else ([], 1)
theorem tupNum_ok {X : Nat} {k : Int} (h : isNatB (limbs X) = true) (hk : inB k 1 8 = true) : tupNum (limbs X) k = ((tupGo (k - 1).toNat X).map limbs, 0) := by simp only [tupNum, if_pos h, if_pos hk, natOf_limbs]
theorem tupNum_range {xs : List Int} {k : Int} (h : isNatB xs = true) (hk : inB k 1 8 = false) : tupNum xs k = ([], 2) := by simp [tupNum, h, hk]
theorem tupNum_bad {xs : List Int} {k : Int} (h : isNatB xs = false) : tupNum xs k = ([], 1) := by simp [tupNum, h]
theorem tupGo_len (k n : Nat) : (tupGo k n).length = k + 1 := by
  induction k generalizing n with
  | zero => rfl
  | succ k ih => simp [tupGo, ih]
theorem tupGo_le (k n : Nat) : ∀ x ∈ tupGo k n, x ≤ n * 8 + 1 := by
  induction k generalizing n with
  | zero => intro x hx; simp [tupGo] at hx; omega
  | succ k ih =>
    intro x hx
    have hB : unpB n ≤ n := by unfold unpB; omega
    rcases List.mem_cons.1 hx with rfl | hx
    · exact Nat.le_trans (by unfold unpA; omega) (Nat.le_trans (unpSum_le _) (isqrt_le _))
    · have := ih (unpB n) x hx; omega
theorem tupNum_len (xs : List Int) (k : Int) : tot (tupNum xs k).1 ≤ 1000000 ∧ (tupNum xs k).1.length ≤ 1000000 := by
  by_cases h : isNatB xs = true
  · obtain ⟨X, rfl, hX⟩ := isNat_limbs h
    by_cases hk : inB k 1 8 = true
    · rw [tupNum_ok h hk]
      have hkb := inB_true.1 hk
      have h3 := tot_le (l := (tupGo (k - 1).toNat X).map limbs) (b := 100) (fun x hx => by
        obtain ⟨y, hy, rfl⟩ := List.mem_map.1 hx
        exact limbs_eight (tupGo_le _ _ y hy) hX)
      simp only [List.length_map, tupGo_len] at h3 ⊢
      have : ((k - 1).toNat + 1) * 100 ≤ 8 * 100 := Nat.mul_le_mul_right _ (by omega)
      omega
    · rw [tupNum_range h (by simpa using hk)]; simp [tot]
  · rw [tupNum_bad (by simpa using h)]; simp [tot]

/-- The relation of both loops: what is left to unpair lies in a row of its own beside the others. -/
def TpRel (w : World) (K X : Nat) (kk q v : Value) (wr : World) : Prop :=
  ∃ (j M : Nat) (A : Option Addr) (n c : Nat) (us : List Value) (l : List Nat), kk = .int .i64 ((j : Int) + 1) ∧ q = .slice A n c ∧ j ≤ 7 ∧ n ≤ 40 ∧ l.length + j ≤ 7 ∧ tupGo K X = l ++ tupGo j M ∧ M ≤ X ∧
    wr.ownsRow w.heap.size 22 1 v l.length us ∧ Inner wr w.heap.size wr.heap.size (us ++ [.slice A n c]) (l.map limbs ++ [limbs M]) ∧ Below w.heap.size w wr

set_option maxHeartbeats 2000000 in
theorem specTupleOf_any (w : World) (A : Option Addr) (n c : Nat) (xs : List Int) (hr : Rd w A n (ints xs)) (hn : n ≤ 1099511627776) (k : Int) :
    Calls Try.prog 46 #[.slice A n c, .int .i64 k] w (RetLI w (tupNum xs k).1 (tupNum xs k).2) := by
  by_cases hN : isNatB xs = true
  · by_cases hK : inB k 1 8 = true
    · obtain ⟨X, rfl, hX⟩ := isNat_limbs hN
      have HF := Lib.hid (tupNum_ok hN hK)
      have hkb := inB_true.1 hK
      obtain ⟨hk1, hk8⟩ := hkb
      have hnx : n ≤ 40 := by have h := hr.1; simp at h; omega
      have HX40 := Lib.hid hX
      clear hX
      obtain ⟨K, rfl⟩ : ∃ K : Nat, k = (K : Int) + 1 := ⟨(k - 1).toNat, by omega⟩
      have HKK : Hid (((K : Int) + 1 - 1).toNat = K) := Lib.hid (by omega)
      have hK7 : K ≤ 7 := by omega
      have HO0 := Lib.hid (own_lit w #[] 0 22 rfl (by omega))
      have HB0 := Lib.hid (below_new w (.cells #[] 22))
      go_enter Try.func46, Try.ntmps46
      go_wp2_with (first
        | (go_at_call 62; refine (l02Is_any _ _ _ _ _ hr hn).mono ?_; rintro e w' ⟨rfl, rfl⟩)
        | (go_at_call 48; refine (l00In_any _ _ _ _).mono ?_; rintro e w' ⟨rfl, rfl⟩))
      refine (l00Own_any _ _ _ _ _ (hr.alloc _) (by omega)).mono ?_
      rintro e w1 ⟨A1, n1, c1, rfl, ho1, hb1⟩
      have hn1 : n1 ≤ 40 := by rw [← own_limb_len ho1]; exact HX40.out
      have HS1 : Hid (w.heap.size ≤ (w.alloc (.cells #[] 22)).heap.size) := Lib.hid (by simp)
      clear hN hK
      go_wp2_with fail
      go_loopw [1, 6, 7] (fun kk v q wr => TpRel w K X kk q v wr) (fun kk _ _ _ => (intOf kk).toNat)
      case atStart =>
        refine ⟨K, X, A1, n1, c1, [], [], rfl, rfl, hK7, hn1, by simpa using hK7, by simp, Nat.le_refl _, own_below HO0.out hb1 (Nat.le_refl _), ?_, HB0.out.trans (hb1.mono HB0.out.size)⟩
        exact (Inner.nil w1 w.heap.size w1.heap.size).snocD (own_base ho1 HS1.out) (by omega) (by simp)
      case round =>
        obtain ⟨j, M, A, n, c, us, l, rfl, rfl, hj7, hn40, hlj, hgo, hMX, hown, hin, hb⟩ := hrel
        clear ho1 hb1
        obtain ⟨Ao, co, rfl, hco, _⟩ := own_form hown
        have HGO := Lib.hid hgo
        clear hgo
        have hbs := hb.size
        have hrR := own_rd hin.last
        rcases Nat.eq_zero_or_pos j with h0 | h0
        · subst h0
          have hll : l.length ≤ 8 := by omega
          go_wp2_with (at_builtin; go_must (refine wpList_app1g Try.eltS rfl _ _ rfl wr w.heap.size _ l.length _ (by rfl) hown _ (by rfl) (by rfl) (by omega) (by omega) ?_); rintro A4 c4 w4 hown4 hb4 hg4)
          go_ret2
          rw [HF.out, HKK.out, HGO.out, tupGo, List.map_append]
          refine ⟨A4, _, c4, rfl, ⟨us ++ [.slice A n c], hown4, fun q hq => hown4.lt q hq, ?_⟩, hb.trans hb4⟩
          exact (hin.grown hown hg4).top
        · obtain ⟨i, rfl⟩ : ∃ i, j = i + 1 := ⟨j - 1, by omega⟩
          go_wp2_with fail
          refine (l04Unpair_any _ _ _ _ M hrR (by omega)).mono ?_
          rintro e w2 ⟨A2, n2, c2, A3, n3, c3, rfl, ho2, ho3, hdis, hb2⟩
          have hMl : (limbs M).length ≤ 40 := Nat.le_trans (limbs_len_mono hMX) HX40.out
          have hua := unp_fit M hMl
          have hn2 : n2 ≤ 1000000000 := Nat.le_trans (own_len_le ho2 hua.1) (by omega)
          have hn3 : n3 ≤ 40 := own_len_le ho3 hua.2
          have hown2 := own_below hown hb2 (Nat.le_refl _)
          have hin2 := hin.init.below hb2 (Nat.le_refl _) (Nat.le_refl _)
          have hin3 := hin2.snocD (own_base ho2 hb.size) hn2 (fun i v hv q h1 h2 => by have := (hin2.old i v hv q h1).2; have := (ho2.lt q h2).1; omega)
          have hin4 := hin3.snocD (own_base ho3 hb.size) (by omega) (fun i v hv q h1 h2 => by
            by_cases hi : i < us.length
            · rw [List.getElem?_append_left hi] at hv
              have := (hin2.old i v hv q h1).2; have := (ho3.lt q h2).1; omega
            · rw [List.getElem?_append_right (by omega)] at hv
              have hi0 : i - us.length = 0 := by
                rcases Nat.eq_zero_or_pos (i - us.length) with h | h
                · exact h
                · rw [List.getElem?_eq_none (by simp; omega)] at hv; cases hv
              rw [hi0] at hv
              simp at hv
              subst hv
              exact hdis q h1 h2)
          have hB2 := hb.trans (hb2.mono hb.size)
          have hbs2 := hB2.size
          have hll : l.length ≤ 8 := by omega
          have HI4 := Lib.hid hin4; have HB2 := Lib.hid hB2
          have HUB : Hid (unpB M ≤ X) := Lib.hid (Nat.le_trans (by unfold unpB; omega) hMX)
          clear hown hin hb hbs hrR hin2 hin3 hin4 hdis ho2 ho3 hb2 hB2 hua hMl
          go_wp2_with (at_builtin; go_must (refine wpList_app1g Try.eltS rfl _ _ rfl w2 w.heap.size _ l.length _ (by rfl) hown2 _ (by rfl) (by rfl) (by omega) (by omega) ?_); rintro A4 c4 w4 hown4 hb4 hg4)
          go_roundw
          case rel =>
            refine ⟨i, unpB M, A3, n3, c3, us ++ [.slice A2 n2 c2], l ++ [unpA M], by go_num, rfl, by omega, hn3, by simp; omega, by rw [HGO.out, tupGo]; simp, HUB.out, by simpa using hown4, ?_, HB2.out.trans hb4⟩
            rw [List.map_append]
            exact (HI4.out.grown hown2 hg4).top
          case measure => simp only [intOf]; omega
    · have hK' : inB k 1 8 = false := by simpa using hK
      have HF := Lib.hid (tupNum_range (k := k) hN hK')
      clear hK
      go_enter Try.func46, Try.ntmps46
      go_wp2_with (first
        | (go_at_call 62; refine (l02Is_any _ _ _ _ _ hr hn).mono ?_; rintro e w' ⟨rfl, rfl⟩)
        | (go_at_call 48; refine (l00In_any _ _ _ _).mono ?_; rintro e w' ⟨rfl, rfl⟩))
      go_ret2
      rw [HF.out]
      exact ⟨none, 0, 0, rfl, OwnL.nil _ _ _, Below.refl _ _⟩
  · have hN' : isNatB xs = false := by simpa using hN
    have HF := Lib.hid (tupNum_bad (k := k) hN')
    clear hN
    go_enter Try.func46, Try.ntmps46
    go_wp2_with (go_at_call 62; refine (l02Is_any _ _ _ _ _ hr hn).mono ?_; rintro e w' ⟨rfl, rfl⟩)
    go_ret2
    rw [HF.out]
    exact ⟨none, 0, 0, rfl, OwnL.nil _ _ _, Below.refl _ _⟩

set_option maxHeartbeats 2000000 in
theorem implTupleOf_any (w : World) (A : Option Addr) (n c : Nat) (xs : List Int) (hr : Rd w A n (ints xs)) (hn : n ≤ 1099511627776) (k : Int) :
    Calls Try.prog 47 #[.slice A n c, .int .i64 k] w (RetLI w (tupNum xs k).1 (tupNum xs k).2) := by
  by_cases hN : isNatB xs = true
  · by_cases hK : inB k 1 8 = true
    · obtain ⟨X, rfl, hX⟩ := isNat_limbs hN
      have HF := Lib.hid (tupNum_ok hN hK)
      have hkb := inB_true.1 hK
      obtain ⟨hk1, hk8⟩ := hkb
      have hnx : n ≤ 40 := by have h := hr.1; simp at h; omega
      have HX40 := Lib.hid hX
      clear hX
      obtain ⟨K, rfl⟩ : ∃ K : Nat, k = (K : Int) + 1 := ⟨(k - 1).toNat, by omega⟩
      have HKK : Hid (((K : Int) + 1 - 1).toNat = K) := Lib.hid (by omega)
      have hK7 : K ≤ 7 := by omega
      have HO0 := Lib.hid (own_lit w #[] 0 22 rfl (by omega))
      have HB0 := Lib.hid (below_new w (.cells #[] 22))
      go_enter Try.func47, Try.ntmps47
      go_wp2_with (first
        | (go_at_call 65; refine (isNatural_any _ _ _ _ _ hr hn).mono ?_; rintro e w' ⟨rfl, rfl⟩)
        | (go_at_call 59; refine (within_any _ _ _ _).mono ?_; rintro e w' ⟨rfl, rfl⟩))
      refine (clone_any _ _ _ _ _ (hr.alloc _) (by omega)).mono ?_
      rintro e w1 ⟨A1, n1, c1, rfl, ho1, hb1⟩
      have hn1 : n1 ≤ 40 := by rw [← own_limb_len ho1]; exact HX40.out
      have HS1 : Hid (w.heap.size ≤ (w.alloc (.cells #[] 22)).heap.size) := Lib.hid (by simp)
      clear hN hK
      go_wp2_with fail
      go_loopw [1, 6, 7] (fun kk v q wr => TpRel w K X kk q v wr) (fun kk _ _ _ => (intOf kk).toNat)
      case atStart =>
        refine ⟨K, X, A1, n1, c1, [], [], rfl, rfl, hK7, hn1, by simpa using hK7, by simp, Nat.le_refl _, own_below HO0.out hb1 (Nat.le_refl _), ?_, HB0.out.trans (hb1.mono HB0.out.size)⟩
        exact (Inner.nil w1 w.heap.size w1.heap.size).snocD (own_base ho1 HS1.out) (by omega) (by simp)
      case round =>
        obtain ⟨j, M, A, n, c, us, l, rfl, rfl, hj7, hn40, hlj, hgo, hMX, hown, hin, hb⟩ := hrel
        clear ho1 hb1
        obtain ⟨Ao, co, rfl, hco, _⟩ := own_form hown
        have HGO := Lib.hid hgo
        clear hgo
        have hbs := hb.size
        have hrR := own_rd hin.last
        rcases Nat.eq_zero_or_pos j with h0 | h0
        · subst h0
          have hll : l.length ≤ 8 := by omega
          go_wp2_with (at_builtin; go_must (refine wpList_app1g Try.eltS rfl _ _ rfl wr w.heap.size _ l.length _ (by rfl) hown _ (by rfl) (by rfl) (by omega) (by omega) ?_); rintro A4 c4 w4 hown4 hb4 hg4)
          go_ret2
          rw [HF.out, HKK.out, HGO.out, tupGo, List.map_append]
          refine ⟨A4, _, c4, rfl, ⟨us ++ [.slice A n c], hown4, fun q hq => hown4.lt q hq, ?_⟩, hb.trans hb4⟩
          exact (hin.grown hown hg4).top
        · obtain ⟨i, rfl⟩ : ∃ i, j = i + 1 := ⟨j - 1, by omega⟩
          go_wp2_with fail
          refine (unpairOf_any _ _ _ _ M hrR (by omega)).mono ?_
          rintro e w2 ⟨A2, n2, c2, A3, n3, c3, rfl, ho2, ho3, hdis, hb2⟩
          have hMl : (limbs M).length ≤ 40 := Nat.le_trans (limbs_len_mono hMX) HX40.out
          have hua := unp_fit M hMl
          have hn2 : n2 ≤ 1000000000 := Nat.le_trans (own_len_le ho2 hua.1) (by omega)
          have hn3 : n3 ≤ 40 := own_len_le ho3 hua.2
          have hown2 := own_below hown hb2 (Nat.le_refl _)
          have hin2 := hin.init.below hb2 (Nat.le_refl _) (Nat.le_refl _)
          have hin3 := hin2.snocD (own_base ho2 hb.size) hn2 (fun i v hv q h1 h2 => by have := (hin2.old i v hv q h1).2; have := (ho2.lt q h2).1; omega)
          have hin4 := hin3.snocD (own_base ho3 hb.size) (by omega) (fun i v hv q h1 h2 => by
            by_cases hi : i < us.length
            · rw [List.getElem?_append_left hi] at hv
              have := (hin2.old i v hv q h1).2; have := (ho3.lt q h2).1; omega
            · rw [List.getElem?_append_right (by omega)] at hv
              have hi0 : i - us.length = 0 := by
                rcases Nat.eq_zero_or_pos (i - us.length) with h | h
                · exact h
                · rw [List.getElem?_eq_none (by simp; omega)] at hv; cases hv
              rw [hi0] at hv
              simp at hv
              subst hv
              exact hdis q h1 h2)
          have hB2 := hb.trans (hb2.mono hb.size)
          have hbs2 := hB2.size
          have hll : l.length ≤ 8 := by omega
          have HI4 := Lib.hid hin4; have HB2 := Lib.hid hB2
          have HUB : Hid (unpB M ≤ X) := Lib.hid (Nat.le_trans (by unfold unpB; omega) hMX)
          clear hown hin hb hbs hrR hin2 hin3 hin4 hdis ho2 ho3 hb2 hB2 hua hMl
          go_wp2_with (at_builtin; go_must (refine wpList_app1g Try.eltS rfl _ _ rfl w2 w.heap.size _ l.length _ (by rfl) hown2 _ (by rfl) (by rfl) (by omega) (by omega) ?_); rintro A4 c4 w4 hown4 hb4 hg4)
          go_roundw
          case rel =>
            refine ⟨i, unpB M, A3, n3, c3, us ++ [.slice A2 n2 c2], l ++ [unpA M], by go_num, rfl, by omega, hn3, by simp; omega, by rw [HGO.out, tupGo]; simp, HUB.out, by simpa using hown4, ?_, HB2.out.trans hb4⟩
            rw [List.map_append]
            exact (HI4.out.grown hown2 hg4).top
          case measure => simp only [intOf]; omega
    · have hK' : inB k 1 8 = false := by simpa using hK
      have HF := Lib.hid (tupNum_range (k := k) hN hK')
      clear hK
      go_enter Try.func47, Try.ntmps47
      go_wp2_with (first
        | (go_at_call 65; refine (isNatural_any _ _ _ _ _ hr hn).mono ?_; rintro e w' ⟨rfl, rfl⟩)
        | (go_at_call 59; refine (within_any _ _ _ _).mono ?_; rintro e w' ⟨rfl, rfl⟩))
      go_ret2
      rw [HF.out]
      exact ⟨none, 0, 0, rfl, OwnL.nil _ _ _, Below.refl _ _⟩
  · have hN' : isNatB xs = false := by simpa using hN
    have HF := Lib.hid (tupNum_bad (k := k) hN')
    clear hN
    go_enter Try.func47, Try.ntmps47
    go_wp2_with (go_at_call 65; refine (isNatural_any _ _ _ _ _ hr hn).mono ?_; rintro e w' ⟨rfl, rfl⟩)
    go_ret2
    rw [HF.out]
    exact ⟨none, 0, 0, rfl, OwnL.nil _ _ _, Below.refl _ _⟩

set_option maxHeartbeats 8000000 in
set_option maxRecDepth 100000 in
theorem lawTupleOf (w : World) (A0 : Option Addr) (n0 c0 : Nat) (x0 : List Int) (hr0 : Rd w A0 n0 (ints x0)) (x1 : Int) :
    Calls Try.prog 14 #[.slice A0 n0 c0, .int .i64 x1] w fun e w' => e = .returned (.bool true) ∧ Below w.heap.size w w' := by
  by_cases hbig0 : n0 ≤ 1048576
  rotate_left
  · go_enter Try.func14, Try.ntmps14
    go_wp2_with fail
    go_ret
    exact ⟨rfl, Below.refl _ _⟩
  have hS : ∀ (w : World) (A0 : Option Addr) (n0 c0 : Nat) (h0 : Rd w A0 n0 (ints x0)) (hn0 : n0 ≤ 1099511627776), Calls Try.prog 46 #[.slice A0 n0 c0, .int .i64 x1] w (RetLI w ((tupNum x0 x1).1) ((tupNum x0 x1).2)) := fun w A0 n0 c0 h0 hn0 => specTupleOf_any w A0 n0 c0 x0 h0 hn0 x1
  have hI : ∀ (w : World) (A0 : Option Addr) (n0 c0 : Nat) (h0 : Rd w A0 n0 (ints x0)) (hn0 : n0 ≤ 1099511627776), Calls Try.prog 47 #[.slice A0 n0 c0, .int .i64 x1] w (RetLI w ((tupNum x0 x1).1) ((tupNum x0 x1).2)) := fun w A0 n0 c0 h0 hn0 => implTupleOf_any w A0 n0 c0 x0 h0 hn0 x1
  have HRL0 : Hid (tot ((tupNum x0 x1).1) ≤ 1000000 ∧ ((tupNum x0 x1).1).length ≤ 1000000) := Lib.hid (tupNum_len _ _)
  have HS := Lib.hid hS; have HI := Lib.hid hI
  clear hS hI
  generalize (tupNum x0 x1).1 = r0 at HS HI HRL0
  generalize (tupNum x0 x1).2 = r1 at HS HI
  have HXL0 : Hid (x0.length = n0) := Lib.hid (by simpa using hr0.1)
  have HB := Below.refl w.heap.size w
  go_enter Try.func14, Try.ntmps14
  go_wp2_with fail
  refine (toInt64S_any _ _ _ _ x0 (hr0.below HB (Nat.le_refl _)) (by omega)).mono ?_
  rintro e v1 ⟨Ao1, no1, co1, rfl, hoo1, hbv1⟩
  have hno1 : no1 ≤ 1048576 := by have := hoo1.1; simp at this; have := HXL0.out; omega
  replace HB := HB.trans (hbv1.mono HB.size)
  have hszv1 := hbv1.size
  have hrgo1 : Hid (∀ k, (Value.slice Ao1 no1 co1).ownBlock = some k → w.heap.size ≤ k ∧ k < v1.heap.size) := Lib.hid fun k hk => hoo1.lt k hk
  go_wp2_with fail
  refine (HS.out _ _ _ _ (own_rd hoo1) (by omega)).mono ?_
  rintro e v2 ⟨Ao2, no2, co2, rfl, hoo2, hbv2⟩
  have hno2 : no2 ≤ 1000000 := by have := hoo2.len; have := HRL0.out.2; omega
  replace hoo1 := own_below hoo1 hbv2 (Nat.le_refl _)
  replace HB := HB.trans (hbv2.mono HB.size)
  have hszv2 := hbv2.size
  go_wp2_with fail
  refine (toInt64S_any _ _ _ _ x0 (hr0.below HB (Nat.le_refl _)) (by omega)).mono ?_
  rintro e v3 ⟨Ao3, no3, co3, rfl, hoo3, hbv3⟩
  have hno3 : no3 ≤ 1048576 := by have := hoo3.1; simp at this; have := HXL0.out; omega
  replace hoo1 := own_below hoo1 hbv3 (Nat.le_refl _)
  replace hoo2 := hoo2.below hbv3 (Nat.le_refl _) (by omega)
  replace HB := HB.trans (hbv3.mono HB.size)
  have hszv3 := hbv3.size
  have hrgo3 : Hid (∀ k, (Value.slice Ao3 no3 co3).ownBlock = some k → v2.heap.size ≤ k ∧ k < v3.heap.size) := Lib.hid fun k hk => hoo3.lt k hk
  go_wp2_with fail
  refine (HI.out _ _ _ _ (own_rd hoo3) (by omega)).mono ?_
  rintro e v4 ⟨Ao4, no4, co4, rfl, hoo4, hbv4⟩
  have hno4 : no4 ≤ 1000000 := by have := hoo4.len; have := HRL0.out.2; omega
  replace hoo1 := own_below hoo1 hbv4 (Nat.le_refl _)
  replace hoo2 := hoo2.below hbv4 (Nat.le_refl _) (by omega)
  replace hoo3 := own_below hoo3 hbv4 (Nat.le_refl _)
  replace HB := HB.trans (hbv4.mono HB.size)
  have hszv4 := hbv4.size
  go_wp2_with fail
  refine (eqL_same _ _ _ _ _ hoo4.rdl (by omega) _ _ _ hoo2.rdl).mono ?_
  rintro e v5 ⟨rfl, hbv5⟩
  replace hoo1 := own_below hoo1 hbv5 (Nat.le_refl _)
  replace hoo2 := hoo2.below hbv5 (Nat.le_refl _) (by omega)
  replace hoo3 := own_below hoo3 hbv5 (Nat.le_refl _)
  replace hoo4 := hoo4.below hbv5 (Nat.le_refl _) (by omega)
  replace HB := HB.trans (hbv5.mono HB.size)
  have hszv5 := hbv5.size
  go_wp2_with fail
  refine (toInt64S_any _ _ _ _ x0 (hr0.below HB (Nat.le_refl _)) (by omega)).mono ?_
  rintro e v6 ⟨Ao5, no5, co5, rfl, hoo5, hbv6⟩
  have hno5 : no5 ≤ 1048576 := by have := hoo5.1; simp at this; have := HXL0.out; omega
  replace hoo1 := own_below hoo1 hbv6 (Nat.le_refl _)
  replace hoo2 := hoo2.below hbv6 (Nat.le_refl _) (by omega)
  replace hoo3 := own_below hoo3 hbv6 (Nat.le_refl _)
  replace hoo4 := hoo4.below hbv6 (Nat.le_refl _) (by omega)
  replace HB := HB.trans (hbv6.mono HB.size)
  have hszv6 := hbv6.size
  have hrgo5 : Hid (∀ k, (Value.slice Ao5 no5 co5).ownBlock = some k → v5.heap.size ≤ k ∧ k < v6.heap.size) := Lib.hid fun k hk => hoo5.lt k hk
  go_wp2_with fail
  refine (eq_same _ _ _ _ _ (own_rd hoo3) (by omega) _ _ _ (own_rd hoo5)).mono ?_
  rintro e v7 ⟨rfl, hbv7⟩
  replace hoo1 := own_below hoo1 hbv7 (Nat.le_refl _)
  replace hoo2 := hoo2.below hbv7 (Nat.le_refl _) (by omega)
  replace hoo3 := own_below hoo3 hbv7 (Nat.le_refl _)
  replace hoo4 := hoo4.below hbv7 (Nat.le_refl _) (by omega)
  replace hoo5 := own_below hoo5 hbv7 (Nat.le_refl _)
  replace HB := HB.trans (hbv7.mono HB.size)
  have hszv7 := hbv7.size
  go_wp2_with fail
  refine (markInt64S_any _ _ _ _ _ _ hoo3 (by omega) (1) (by omega) (by omega)).mono ?_
  rintro e v8 ⟨rfl, hmo3, hgv8⟩
  have hOv8 : Outside v2.heap.size v3.heap.size _ v8 := out_grown hgv8 hrgo3.out
  replace hoo1 := own_out hoo1 hrgo1.out hOv8 (by omega)
  replace hoo2 := hoo2.out hOv8 (by omega)
  replace hoo4 := hoo4.out hOv8 (by omega)
  replace hoo5 := own_out hoo5 hrgo5.out hOv8 (by omega)
  replace HB := below_out HB hOv8 (by omega) HB.size
  replace hoo3 := hmo3
  have hszv8 := hOv8.size
  go_wp2_with fail
  refine (eqL_same _ _ _ _ _ hoo4.rdl (by omega) _ _ _ hoo2.rdl).mono ?_
  rintro e v9 ⟨rfl, hbv9⟩
  replace hoo1 := own_below hoo1 hbv9 (Nat.le_refl _)
  replace hoo2 := hoo2.below hbv9 (Nat.le_refl _) (by omega)
  replace hoo3 := own_below hoo3 hbv9 (Nat.le_refl _)
  replace hoo4 := hoo4.below hbv9 (Nat.le_refl _) (by omega)
  replace hoo5 := own_below hoo5 hbv9 (Nat.le_refl _)
  replace HB := HB.trans (hbv9.mono HB.size)
  have hszv9 := hbv9.size
  go_wp2_with fail
  have hTv10 : tot r0 ≤ 1048576 := by have := HRL0.out.1; omega
  refine (markInt64SS_any _ _ _ _ _ _ r0 hoo4 (by omega) (by omega) (1) (by omega) (by omega)).mono ?_
  rintro e v10 ⟨rfl, hmo4, hOv10⟩
  replace hoo1 := own_out hoo1 hrgo1.out hOv10 (by omega)
  replace hoo2 := hoo2.out hOv10 (by omega)
  replace hoo3 := own_out hoo3 hrgo3.out hOv10 (by omega)
  replace hoo5 := own_out hoo5 hrgo5.out hOv10 (by omega)
  replace HB := below_out HB hOv10 (by omega) HB.size
  replace hoo4 := hmo4
  have hszv10 := hOv10.size
  go_wp2_with fail
  have hTv11 : tot r0 ≤ 1048576 := by have := HRL0.out.1; omega
  refine (heldInt64SS_any _ _ _ _ r0 (1) hoo4.rdl (by omega) (by omega) (by omega) (by omega)).mono ?_
  rintro e v11 ⟨rfl, hbv11⟩
  replace hoo1 := own_below hoo1 hbv11 (Nat.le_refl _)
  replace hoo2 := hoo2.below hbv11 (Nat.le_refl _) (by omega)
  replace hoo3 := own_below hoo3 hbv11 (Nat.le_refl _)
  replace hoo4 := hoo4.below hbv11 (Nat.le_refl _) (by omega)
  replace hoo5 := own_below hoo5 hbv11 (Nat.le_refl _)
  replace HB := HB.trans (hbv11.mono HB.size)
  have hszv11 := hbv11.size
  go_wp2_with fail
  refine (toInt64S_any _ _ _ _ x0 (hr0.below HB (Nat.le_refl _)) (by omega)).mono ?_
  rintro e v12 ⟨Ao6, no6, co6, rfl, hoo6, hbv12⟩
  have hno6 : no6 ≤ 1048576 := by have := hoo6.1; simp at this; have := HXL0.out; omega
  replace hoo1 := own_below hoo1 hbv12 (Nat.le_refl _)
  replace hoo2 := hoo2.below hbv12 (Nat.le_refl _) (by omega)
  replace hoo3 := own_below hoo3 hbv12 (Nat.le_refl _)
  replace hoo4 := hoo4.below hbv12 (Nat.le_refl _) (by omega)
  replace hoo5 := own_below hoo5 hbv12 (Nat.le_refl _)
  replace HB := HB.trans (hbv12.mono HB.size)
  have hszv12 := hbv12.size
  have hrgo6 : Hid (∀ k, (Value.slice Ao6 no6 co6).ownBlock = some k → v11.heap.size ≤ k ∧ k < v12.heap.size) := Lib.hid fun k hk => hoo6.lt k hk
  go_wp2_with fail
  refine (HI.out _ _ _ _ (own_rd hoo6) (by omega)).mono ?_
  rintro e v13 ⟨Ao7, no7, co7, rfl, hoo7, hbv13⟩
  have hno7 : no7 ≤ 1000000 := by have := hoo7.len; have := HRL0.out.2; omega
  replace hoo1 := own_below hoo1 hbv13 (Nat.le_refl _)
  replace hoo2 := hoo2.below hbv13 (Nat.le_refl _) (by omega)
  replace hoo3 := own_below hoo3 hbv13 (Nat.le_refl _)
  replace hoo4 := hoo4.below hbv13 (Nat.le_refl _) (by omega)
  replace hoo5 := own_below hoo5 hbv13 (Nat.le_refl _)
  replace hoo6 := own_below hoo6 hbv13 (Nat.le_refl _)
  replace HB := HB.trans (hbv13.mono HB.size)
  have hszv13 := hbv13.size
  go_wp2_with fail
  refine (eqL_same _ _ _ _ _ hoo7.rdl (by omega) _ _ _ hoo2.rdl).mono ?_
  rintro e v14 ⟨rfl, hbv14⟩
  replace hoo1 := own_below hoo1 hbv14 (Nat.le_refl _)
  replace hoo2 := hoo2.below hbv14 (Nat.le_refl _) (by omega)
  replace hoo3 := own_below hoo3 hbv14 (Nat.le_refl _)
  replace hoo4 := hoo4.below hbv14 (Nat.le_refl _) (by omega)
  replace hoo5 := own_below hoo5 hbv14 (Nat.le_refl _)
  replace hoo6 := own_below hoo6 hbv14 (Nat.le_refl _)
  replace hoo7 := hoo7.below hbv14 (Nat.le_refl _) (by omega)
  replace HB := HB.trans (hbv14.mono HB.size)
  have hszv14 := hbv14.size
  go_wp2_with fail
  have hTv15 : tot r0 ≤ 1048576 := by have := HRL0.out.1; omega
  refine (heldInt64SS_any _ _ _ _ r0 (1) hoo4.rdl (by omega) (by omega) (by omega) (by omega)).mono ?_
  rintro e v15 ⟨rfl, hbv15⟩
  replace hoo1 := own_below hoo1 hbv15 (Nat.le_refl _)
  replace hoo2 := hoo2.below hbv15 (Nat.le_refl _) (by omega)
  replace hoo3 := own_below hoo3 hbv15 (Nat.le_refl _)
  replace hoo4 := hoo4.below hbv15 (Nat.le_refl _) (by omega)
  replace hoo5 := own_below hoo5 hbv15 (Nat.le_refl _)
  replace hoo6 := own_below hoo6 hbv15 (Nat.le_refl _)
  replace hoo7 := hoo7.below hbv15 (Nat.le_refl _) (by omega)
  replace HB := HB.trans (hbv15.mono HB.size)
  have hszv15 := hbv15.size
  go_wp2_with fail
  go_ret
  exact ⟨rfl, HB⟩
end Go.Proofs.Ytdpkcnjoklnoeaa
