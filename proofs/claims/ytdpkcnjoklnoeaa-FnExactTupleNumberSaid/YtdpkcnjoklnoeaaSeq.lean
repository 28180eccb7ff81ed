/- SequenceOf and TupleOf: the reference's functions and the program's give the same lists and code. -/
import Derived.Test.YtdpkcnjoklnoeaaLawL2
namespace Go.Proofs.Ytdpkcnjoklnoeaa
open Go.RowKit Limb

theorem own_types {w w' : World} {lo lo' e T n m : Nat} {v v2 : Value} {us xs : List Value} (h : w.ownsRow lo T 1 v n us) (h2 : w.ownsRow lo' e 1 v2 m xs) (hT : T ≠ e) (hg : w.grownBy w' v2.ownBlock) : w'.ownsRow lo T 1 v n us := by
  refine own_apart h hg (fun k a b => ?_)
  rcases h.2 with ⟨rfl, _⟩ | ⟨g, _, _, rfl, _, hg1, _⟩
  · simp [Value.ownBlock] at a
  · rcases h2.2 with ⟨rfl, _⟩ | ⟨g2, _, _, rfl, _, hg2, _⟩
    · simp [Value.ownBlock] at b
    · have e1 : g = k := by simpa [Value.ownBlock] using a
      have e2 : g2 = k := by simpa [Value.ownBlock] using b
      exact blk_ne hg1 hg2 hT (by omega)
theorem Inner.grown {w w' : World} {lo lo' hi n : Nat} {us vs : List Value} {xss : List (List Int)} {v : Value} (h : Inner w lo hi us xss) (ho : w.ownsRow lo' 22 1 v n vs) (hg : w.grownBy w' v.ownBlock) : Inner w' lo hi us xss := by
  obtain ⟨h1, h2, h3⟩ := h
  refine ⟨h1, fun i u xs hu hx => ?_, h3⟩
  obtain ⟨A, m, c, rfl, hm, ho', hb⟩ := h2 i u xs hu hx
  exact ⟨A, m, c, rfl, hm, own_types ho' ho (by decide) hg, hb⟩
theorem Inner.top {w : World} {lo hi : Nat} {us : List Value} {xss : List (List Int)} (h : Inner w lo hi us xss) : Inner w lo w.heap.size us xss := by
  obtain ⟨h1, h2, h3⟩ := h
  refine ⟨h1, fun i u xs hu hx => ?_, h3⟩
  obtain ⟨A, m, c, rfl, hm, ho', hb⟩ := h2 i u xs hu hx
  exact ⟨A, m, c, rfl, hm, ho', fun k hk => ⟨(hb k hk).1, (ho'.lt k hk).2⟩⟩
theorem Inner.snocD {w : World} {lo hi n c : Nat} {us : List Value} {xss : List (List Int)} {A : Option Addr} {xs : List Int} (h : Inner w lo hi us xss) (ho : w.ownsRow lo 2 1 (.slice A n c) n (ints xs)) (hn : n ≤ 1000000000)
    (hd : ∀ (i : Nat) (v : Value), us[i]? = some v → ∀ k, v.ownBlock = some k → (Value.slice A n c).ownBlock = some k → False) : Inner w lo w.heap.size (us ++ [.slice A n c]) (xss ++ [xs]) := by
  obtain ⟨h1, h2, h3⟩ := h.top
  have hnew : ∀ (i : Nat) (u : Value), ¬ i < us.length → (us ++ [Value.slice A n c])[i]? = some u → i = us.length ∧ u = .slice A n c := by
    intro i u hi' hu
    rw [List.getElem?_append_right (by omega)] at hu
    have hi0 : i - us.length = 0 := by
      rcases Nat.eq_zero_or_pos (i - us.length) with h | h
      · exact h
      · rw [List.getElem?_eq_none (by simp; omega)] at hu; cases hu
    rw [hi0] at hu
    simp at hu
    exact ⟨by omega, hu.symm⟩
  refine ⟨by simp [h1], fun i u ys hu hx => ?_, fun i j u v hu hv k hk hk' => ?_⟩
  · by_cases hi : i < us.length
    · rw [List.getElem?_append_left hi] at hu
      rw [List.getElem?_append_left (by omega)] at hx
      exact h2 i u ys hu hx
    · obtain ⟨e, rfl⟩ := hnew i u hi hu
      rw [List.getElem?_append_right (by omega), show i - xss.length = 0 by omega] at hx
      simp at hx
      subst hx
      exact ⟨A, n, c, rfl, hn, ho, fun k hk => ho.lt k hk⟩
  · by_cases hi' : i < us.length <;> by_cases hj' : j < us.length
    · rw [List.getElem?_append_left hi'] at hu
      rw [List.getElem?_append_left hj'] at hv
      exact h3 i j u v hu hv k hk hk'
    · obtain ⟨_, rfl⟩ := hnew j v hj' hv
      rw [List.getElem?_append_left hi'] at hu
      exact (hd i u hu k hk hk').elim
    · obtain ⟨_, rfl⟩ := hnew i u hi' hu
      rw [List.getElem?_append_left hj'] at hv
      exact (hd j v hv k hk' hk).elim
    · have := (hnew i u hi' hu).1
      have := (hnew j v hj' hv).1
      omega
theorem Inner.old {w : World} {lo hi : Nat} {us : List Value} {xss : List (List Int)} (h : Inner w lo hi us xss) : ∀ (i : Nat) (v : Value), us[i]? = some v → ∀ k, v.ownBlock = some k → lo ≤ k ∧ k < hi := by
  intro i v hv k hk
  obtain ⟨xs, hx⟩ := get_some (xs := xss) (k := i) (by rw [← h.1]; exact (List.getElem?_eq_some_iff.1 hv).1)
  obtain ⟨_, _, _, rfl, _, _, hb⟩ := h.2.1 i v xs hv hx
  exact hb k hk

/-- The sequence with a number; none beyond eight elements. -/
def seqGo (n cnt : Nat) : Option (List Nat) := if n = 0 then some [] else if cnt = 8 then none else (seqGo (unpB (n - 1)) (cnt + 1)).map (unpA (n - 1) :: ·)
termination_by n
decreasing_by
  have : unpB (n - 1) ≤ n - 1 := by unfold unpB; omega
  omega
theorem seqGo_zero (c : Nat) : seqGo 0 c = some [] := by rw [seqGo]; simp
theorem seqGo_full {n : Nat} (h : 0 < n) : seqGo n 8 = none := by rw [seqGo]; simp; omega
theorem seqGo_step {n c : Nat} (h : 0 < n) (hc : c ≠ 8) : seqGo n c = (seqGo (unpB (n - 1)) (c + 1)).map (unpA (n - 1) :: ·) := by rw [seqGo, if_neg (by omega), if_neg hc]
def seqNum (xs : List Int) : List (List Int) × Int := if isNatB xs = true then (match seqGo (natOf xs) 0 with | some l => (l.map limbs, 0) | none => ([], 5)) else ([], 1)
theorem seqNum_ok {X : Nat} (h : isNatB (limbs X) = true) {l : List Nat} (hg : seqGo X 0 = some l) : seqNum (limbs X) = (l.map limbs, 0) := by simp only [seqNum, if_pos h, natOf_limbs, hg]
theorem seqNum_full {X : Nat} (h : isNatB (limbs X) = true) (hg : seqGo X 0 = none) : seqNum (limbs X) = ([], 5) := by simp only [seqNum, if_pos h, natOf_limbs, hg]
theorem seqNum_bad {xs : List Int} (h : isNatB xs = false) : seqNum xs = ([], 1) := by simp [seqNum, h]

/-- The relation of both loops. -/
def SqRel (w : World) (X : Nat) (m : Nat) (q v : Value) (wr : World) : Prop :=
  ∃ (A : Option Addr) (n c k : Nat) (us : List Value) (l : List Nat), q = .slice A n c ∧ Rd wr A n (ints (limbs m)) ∧ n ≤ 40 ∧ l.length = k ∧ k ≤ 8 ∧ seqGo X 0 = (seqGo m k).map (l ++ ·) ∧
    wr.ownsRow w.heap.size 22 1 v k us ∧ Inner wr w.heap.size wr.heap.size us (l.map limbs) ∧ Below w.heap.size w wr
theorem SqRel.go {X m k : Nat} {l : List Nat} (h : seqGo X 0 = (seqGo m k).map (l ++ ·)) (hm : 0 < m) (hk : k ≠ 8) : seqGo X 0 = (seqGo (unpB (m - 1)) (k + 1)).map ((l ++ [unpA (m - 1)]) ++ ·) := by
  rw [h, seqGo_step hm hk, Option.map_map]
  congr 1
  funext x
  simp
theorem unpB_len {m : Nat} (h : (limbs m).length ≤ 40) : (limbs (unpB (m - 1))).length ≤ 40 :=
  Nat.le_trans (limbs_len_mono (show unpB (m - 1) ≤ m by unfold unpB; omega)) h

set_option maxHeartbeats 2000000 in
theorem specSequenceOf_any (w : World) (A : Option Addr) (n c : Nat) (xs : List Int) (hr : Rd w A n (ints xs)) (hn : n ≤ 1099511627776) :
    Calls Try.prog 43 #[.slice A n c] w (RetLI w (seqNum xs).1 (seqNum xs).2) := by
  by_cases hN : isNatB xs = true
  · obtain ⟨X, rfl, hX⟩ := isNat_limbs hN
    have HF1 := Lib.hid (fun l => seqNum_ok (l := l) hN); have HF2 := Lib.hid (seqNum_full hN)
    have hnx : n ≤ 40 := by have h := hr.1; simp at h; omega
    clear hX
    go_enter Try.func43, Try.ntmps43
    go_wp2_with (go_at_call 62; refine (l02Is_any _ _ _ _ _ hr hn).mono ?_; rintro e w' ⟨rfl, rfl⟩)
    clear hN
    go_loopg [4, 5] X (fun m v q wr => SqRel w X m q v wr)
    case atStart => exact ⟨A, n, c, 0, [], [], rfl, hr.alloc _, hnx, rfl, by omega, by simp, own_lit w #[] 0 22 rfl (by omega), Inner.nil _ _ _, below_new _ _⟩
    case round =>
      obtain ⟨A, n, c, k, us, l, rfl, hr, hn, hlk, hk8, hgo, hown, hin, hb⟩ := hrel
      obtain ⟨Ao, co, rfl, hco, _⟩ := own_form hown
      have HL : Hid ((limbs gk).length = n) := Lib.hid (by simpa using hr.1)
      have HK := Lib.hid hlk; have HG := Lib.hid hgo
      clear hlk hgo
      have hbs := hb.size
      rcases Nat.eq_zero_or_pos n with h0 | h0
      · have hg : Hid (gk = 0) := Lib.hid ((limbs_zero_iff HL.out).1 h0)
        go_wp2_with fail
        go_ret2
        rw [HF1.out l (by rw [HG.out, hg.out, seqGo_zero]; simp)]
        exact ⟨Ao, k, co, rfl, ⟨us, hown, fun q hq => hown.lt q hq, hin⟩, hb⟩
      · have hg : Hid (0 < gk) := Lib.hid (by
          rcases Nat.eq_zero_or_pos gk with h | h
          · have := (limbs_zero_iff HL.out).2 h; omega
          · exact h)
        by_cases h8 : k = 8
        · subst h8
          go_wp2_with fail
          go_ret2
          rw [HF2.out (by rw [HG.out, seqGo_full hg.out]; rfl)]
          exact ⟨none, 0, 0, rfl, OwnL.nil _ _ _, hb⟩
        · have t8 : ((k : Int) == 8) = false := by simp; omega
          have HO1 := Lib.hid (own_one wr 2)
          have Hb1 := Lib.hid (below_new wr (.cells #[.int .i64 1] 2))
          go_wp2_with fail
          refine (l02Sub_any _ _ _ _ gk (hr.alloc _) (by omega) _ _ _ 1 (own_rd HO1.out) hg.out).mono ?_
          rintro e w1 ⟨A1, n1, c1, rfl, ho1, hb1⟩
          have hn1 : n1 ≤ 40 := own_len_le ho1 (Nat.le_trans (limbs_len_mono (Nat.sub_le _ _)) (by rw [HL.out]; omega))
          go_wp2_with fail
          refine (l04Unpair_any _ _ _ _ _ (own_rd ho1) (by omega)).mono ?_
          rintro e w2 ⟨A2, n2, c2, A3, n3, c3, rfl, ho2, ho3, hdis, hb2⟩
          have hub := unpB_len (m := gk) (by rw [HL.out]; omega)
          have hua := (unp_fit (gk - 1) (Nat.le_trans (limbs_len_mono (Nat.sub_le gk 1)) (by rw [HL.out]; omega))).1
          have hn2 : n2 ≤ 1000000000 := Nat.le_trans (own_len_le ho2 hua) (by omega)
          have hn3 : n3 ≤ 40 := own_len_le ho3 hub
          have hbb : Below wr.heap.size wr w2 := (Hb1.out.trans (hb1.mono Hb1.out.size)).trans (hb2.mono (Nat.le_trans Hb1.out.size hb1.size))
          have hown2 := own_below hown hbb (Nat.le_refl _)
          have hin2 := hin.below hbb (Nat.le_refl _) (Nat.le_refl _)
          have hs1 : wr.heap.size ≤ w1.heap.size := Nat.le_trans Hb1.out.size hb1.size
          have hin3 := hin2.snocD (own_base ho2 (Nat.le_trans hb.size hs1)) hn2 (fun i v hv q h1 h2 => by have := (hin2.old i v hv q h1).2; have := (ho2.lt q h2).1; omega)
          have hB2 := hb.trans (hbb.mono hb.size)
          have hbs2 := hB2.size
          have HI3 := Lib.hid hin3; have HO3 := Lib.hid ho3; have HB2 := Lib.hid hB2
          clear hown hin hb hbs hr hin2 hin3 hdis ho2 ho1 hb1 hb2 hbb hB2 hub hua ho3
          go_wp2_with (at_builtin; go_must (refine wpList_app1g Try.eltS rfl _ _ rfl w2 w.heap.size _ k _ (by rfl) hown2 _ (by rfl) (by rfl) (by omega) (by omega) ?_); rintro A4 c4 w4 hown4 hb4 hg4)
          go_roundg (unpB (gk - 1))
          case measure => have := hg.out; unfold unpB; omega
          case rel =>
            have e := SqRel.go HG.out hg.out h8
            refine ⟨A3, n3, c3, k + 1, us ++ [.slice A2 n2 c2], l ++ [unpA (gk - 1)], rfl, ?_, hn3, by simp [HK.out], by omega, e, hown4, ?_, HB2.out.trans hb4⟩
            · exact own_rd (own_types HO3.out hown2 (by decide) hg4)
            · rw [List.map_append]
              exact (HI3.out.grown hown2 hg4).top
  · have hN' : isNatB xs = false := by simpa using hN
    have HF := Lib.hid (seqNum_bad hN')
    clear hN
    go_enter Try.func43, Try.ntmps43
    go_wp2_with (go_at_call 62; refine (l02Is_any _ _ _ _ _ hr hn).mono ?_; rintro e w' ⟨rfl, rfl⟩)
    go_ret2
    rw [HF.out]
    exact ⟨none, 0, 0, rfl, OwnL.nil _ _ _, Below.refl _ _⟩
set_option maxHeartbeats 2000000 in
theorem implSequenceOf_any (w : World) (A : Option Addr) (n c : Nat) (xs : List Int) (hr : Rd w A n (ints xs)) (hn : n ≤ 1099511627776) :
    Calls Try.prog 44 #[.slice A n c] w (RetLI w (seqNum xs).1 (seqNum xs).2) := by
  by_cases hN : isNatB xs = true
  · obtain ⟨X, rfl, hX⟩ := isNat_limbs hN
    have HF1 := Lib.hid (fun l => seqNum_ok (l := l) hN); have HF2 := Lib.hid (seqNum_full hN)
    have hnx : n ≤ 40 := by have h := hr.1; simp at h; omega
    clear hX
    go_enter Try.func44, Try.ntmps44
    go_wp2_with (go_at_call 65; refine (isNatural_any _ _ _ _ _ hr hn).mono ?_; rintro e w' ⟨rfl, rfl⟩)
    clear hN
    go_loopg [0, 4] X (fun m q v wr => SqRel w X m q v wr)
    case atStart => exact ⟨A, n, c, 0, [], [], rfl, hr.alloc _, hnx, rfl, by omega, by simp, own_lit w #[] 0 22 rfl (by omega), Inner.nil _ _ _, below_new _ _⟩
    case round =>
      obtain ⟨A, n, c, k, us, l, rfl, hr, hn, hlk, hk8, hgo, hown, hin, hb⟩ := hrel
      obtain ⟨Ao, co, rfl, hco, _⟩ := own_form hown
      have HL : Hid ((limbs gk).length = n) := Lib.hid (by simpa using hr.1)
      have HK := Lib.hid hlk; have HG := Lib.hid hgo
      clear hlk hgo
      have hbs := hb.size
      rcases Nat.eq_zero_or_pos n with h0 | h0
      · have hg : Hid (gk = 0) := Lib.hid ((limbs_zero_iff HL.out).1 h0)
        go_wp2_with fail
        go_ret2
        rw [HF1.out l (by rw [HG.out, hg.out, seqGo_zero]; simp)]
        exact ⟨Ao, k, co, rfl, ⟨us, hown, fun q hq => hown.lt q hq, hin⟩, hb⟩
      · have hg : Hid (0 < gk) := Lib.hid (by
          rcases Nat.eq_zero_or_pos gk with h | h
          · have := (limbs_zero_iff HL.out).2 h; omega
          · exact h)
        by_cases h8 : k = 8
        · subst h8
          go_wp2_with fail
          go_ret2
          rw [HF2.out (by rw [HG.out, seqGo_full hg.out]; rfl)]
          exact ⟨none, 0, 0, rfl, OwnL.nil _ _ _, hb⟩
        · have t8 : ((k : Int) == 8) = false := by simp; omega
          go_wp2_with fail
          refine (one_any _).mono ?_
          rintro e w0 ⟨A0, n0, c0, rfl, ho0, hb0⟩
          have Hb1 := Lib.hid hb0
          go_wp2_with fail
          refine (subtract_any _ _ _ _ gk (hr.below hb0 (Nat.le_refl _)) (by omega) _ _ _ 1 (own_rd ho0) hg.out).mono ?_
          rintro e w1 ⟨A1, n1, c1, rfl, ho1, hb1⟩
          have hn1 : n1 ≤ 40 := own_len_le ho1 (Nat.le_trans (limbs_len_mono (Nat.sub_le _ _)) (by rw [HL.out]; omega))
          go_wp2_with fail
          refine (unpairOf_any _ _ _ _ _ (own_rd ho1) (by omega)).mono ?_
          rintro e w2 ⟨A2, n2, c2, A3, n3, c3, rfl, ho2, ho3, hdis, hb2⟩
          have hub := unpB_len (m := gk) (by rw [HL.out]; omega)
          have hua := (unp_fit (gk - 1) (Nat.le_trans (limbs_len_mono (Nat.sub_le gk 1)) (by rw [HL.out]; omega))).1
          have hn2 : n2 ≤ 1000000000 := Nat.le_trans (own_len_le ho2 hua) (by omega)
          have hn3 : n3 ≤ 40 := own_len_le ho3 hub
          have hbb : Below wr.heap.size wr w2 := (Hb1.out.trans (hb1.mono Hb1.out.size)).trans (hb2.mono (Nat.le_trans Hb1.out.size hb1.size))
          have hown2 := own_below hown hbb (Nat.le_refl _)
          have hin2 := hin.below hbb (Nat.le_refl _) (Nat.le_refl _)
          have hs1 : wr.heap.size ≤ w1.heap.size := Nat.le_trans Hb1.out.size hb1.size
          have hin3 := hin2.snocD (own_base ho2 (Nat.le_trans hb.size hs1)) hn2 (fun i v hv q h1 h2 => by have := (hin2.old i v hv q h1).2; have := (ho2.lt q h2).1; omega)
          have hB2 := hb.trans (hbb.mono hb.size)
          have hbs2 := hB2.size
          have HI3 := Lib.hid hin3; have HO3 := Lib.hid ho3; have HB2 := Lib.hid hB2
          clear hown hin hb hbs hr hin2 hin3 hdis ho2 ho1 hb1 hb2 hbb hB2 hub hua ho3 ho0 hb0
          go_wp2_with (at_builtin; go_must (refine wpList_app1g Try.eltS rfl _ _ rfl w2 w.heap.size _ k _ (by rfl) hown2 _ (by rfl) (by rfl) (by omega) (by omega) ?_); rintro A4 c4 w4 hown4 hb4 hg4)
          go_roundg (unpB (gk - 1))
          case measure => have := hg.out; unfold unpB; omega
          case rel =>
            have e := SqRel.go HG.out hg.out h8
            refine ⟨A3, n3, c3, k + 1, us ++ [.slice A2 n2 c2], l ++ [unpA (gk - 1)], rfl, ?_, hn3, by simp [HK.out], by omega, e, hown4, ?_, HB2.out.trans hb4⟩
            · exact own_rd (own_types HO3.out hown2 (by decide) hg4)
            · rw [List.map_append]
              exact (HI3.out.grown hown2 hg4).top
  · have hN' : isNatB xs = false := by simpa using hN
    have HF := Lib.hid (seqNum_bad hN')
    clear hN
    go_enter Try.func44, Try.ntmps44
    go_wp2_with (go_at_call 65; refine (isNatural_any _ _ _ _ _ hr hn).mono ?_; rintro e w' ⟨rfl, rfl⟩)
    go_ret2
    rw [HF.out]
    exact ⟨none, 0, 0, rfl, OwnL.nil _ _ _, Below.refl _ _⟩

theorem seqGo_bound : ∀ (n c : Nat) (l : List Nat), c ≤ 8 → seqGo n c = some l → l.length + c ≤ 8 ∧ ∀ x ∈ l, x ≤ n * 8 + 1 := by
  intro n
  induction n using Nat.strongRecOn with
  | _ n ih =>
    intro c l hc h
    rcases Nat.eq_zero_or_pos n with h0 | h0
    · subst h0
      rw [seqGo_zero] at h
      injection h with h
      subst h
      simpa using hc
    · by_cases h8 : c = 8
      · subst h8; rw [seqGo_full h0] at h; cases h
      · rw [seqGo_step h0 h8] at h
        obtain ⟨r, hr, rfl⟩ := Option.map_eq_some_iff.1 h
        have hB : unpB (n - 1) ≤ n - 1 := by unfold unpB; omega
        obtain ⟨h1, h2⟩ := ih (unpB (n - 1)) (by omega) (c + 1) r (by omega) hr
        refine ⟨by simp; omega, fun x hx => ?_⟩
        rcases List.mem_cons.1 hx with rfl | hx
        · have : unpA (n - 1) ≤ (n - 1) * 8 + 1 := Nat.le_trans (by unfold unpA; omega) (Nat.le_trans (unpSum_le _) (isqrt_le _))
          omega
        · have := h2 x hx
          omega
theorem tot_le {l : List (List Int)} {b : Nat} (h : ∀ x ∈ l, x.length ≤ b) : tot l ≤ l.length * b := by
  induction l with
  | nil => simp [tot]
  | cons x r ih =>
    have h1 := ih (fun y hy => h y (by simp [hy]))
    have h2 := h x (by simp)
    simp only [tot, List.length_cons, Nat.succ_mul]
    omega
theorem limbs_eight {x X : Nat} (hx : x ≤ X * 8 + 1) (hX : (limbs X).length ≤ 40) : (limbs x).length ≤ 100 := by
  have h3 := limbs_len_mono hx
  have h4 := limbs_len_mul X 8
  have h5 := limbs_len_add (X * 8) 1
  have h6 := limbs_len_small (n := 8) (by omega)
  have h7 := limbs_len_small (n := 1) (by omega)
  omega
theorem seqNum_len (xs : List Int) : tot (seqNum xs).1 ≤ 1000000 ∧ (seqNum xs).1.length ≤ 1000000 := by
  by_cases h : isNatB xs = true
  · obtain ⟨X, rfl, hX⟩ := isNat_limbs h
    cases hg : seqGo X 0 with
    | none => rw [seqNum_full h hg]; simp [tot]
    | some l =>
      rw [seqNum_ok h hg]
      obtain ⟨h1, h2⟩ := seqGo_bound X 0 l (by omega) hg
      have h3 := tot_le (l := l.map limbs) (b := 100) (fun x hx => by
        obtain ⟨y, hy, rfl⟩ := List.mem_map.1 hx
        exact limbs_eight (h2 y hy) hX)
      simp only [List.length_map] at h3 ⊢
      have : l.length * 100 ≤ 8 * 100 := Nat.mul_le_mul_right _ (by omega)
      omega
  · rw [seqNum_bad (by simpa using h)]; simp [tot]
end Go.Proofs.Ytdpkcnjoklnoeaa
