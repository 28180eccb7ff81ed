/- SequenceNumber and TupleNumber: numbers of lists of naturals. -/
import Derived.Test.YtdpkcnjoklnoeaaTup
namespace Go.Proofs.Ytdpkcnjoklnoeaa
open Go.RowKit Limb

/-- A slice of slices that came in: no bound on the inner lengths but the language's own. -/
def RdW (w : World) (A : Option Addr) (n : Nat) (xss : List (List Int)) : Prop :=
  ∃ vs : List Value, Rd w A n vs ∧ vs.length = xss.length ∧ ∀ (i : Nat) (v : Value) (xs : List Int), vs[i]? = some v → xss[i]? = some xs → ∃ A' n' c', v = .slice A' n' c' ∧ n' ≤ 9223372036854775807 ∧ Rd w A' n' (ints xs)
theorem RdW.len {w : World} {A : Option Addr} {n : Nat} {xss : List (List Int)} (h : RdW w A n xss) : xss.length = n := by
  obtain ⟨vs, h1, h2, _⟩ := h; rw [← h2, h1.1]
theorem RdW.at_ {w : World} {A : Option Addr} {n k : Nat} {xss : List (List Int)} {xs : List Int} (h : RdW w A n xss) (hx : xss[k]? = some xs) :
    ∃ b off A' n' c', A = some ⟨b, off, none⟩ ∧ b < w.heap.size ∧ w.cell? ⟨b, off + k, none⟩ = some (.slice A' n' c') ∧ n' ≤ 9223372036854775807 ∧ xs.length = n' := by
  obtain ⟨vs, h1, h2, h3⟩ := h
  have hk : k < vs.length := by rw [h2]; exact (List.getElem?_eq_some_iff.1 hx).1
  obtain ⟨v, hv⟩ := get_some hk
  obtain ⟨A', n', c', rfl, hn', hr'⟩ := h3 k v xs hv hx
  obtain ⟨b, off, e, hb, hc⟩ := h1.at_ hv
  exact ⟨b, off, A', n', c', e, hb, hc, hn', by simpa using hr'.1⟩
theorem tot_mem {xss : List (List Int)} {xs : List Int} (h : xs ∈ xss) : xs.length ≤ tot xss := by
  induction xss with
  | nil => simp at h
  | cons y r ih =>
    simp only [tot]
    rcases List.mem_cons.1 h with rfl | h
    · omega
    · have := ih h; omega
theorem RdW.rdl {w : World} {A : Option Addr} {n : Nat} {xss : List (List Int)} (h : RdW w A n xss) (ht : tot xss ≤ 1000000000) : RdL w A n xss := by
  obtain ⟨vs, h1, h2, h3⟩ := h
  refine ⟨vs, h1, h2, fun i v xs hv hx => ?_⟩
  obtain ⟨A', n', c', rfl, hn', hr'⟩ := h3 i v xs hv hx
  refine ⟨A', n', c', rfl, ?_, hr'⟩
  have hl : xs.length = n' := by simpa using hr'.1
  have := tot_mem (List.mem_of_getElem? hx)
  omega
theorem OwnL.cap {w : World} {lo hi n c : Nat} {A : Option Addr} {xss : List (List Int)} (h : OwnL w lo hi A n c xss) : n ≤ c := by
  obtain ⟨us, h1, _⟩ := h
  obtain ⟨_, _, e, hc, _⟩ := own_form h1
  injection e with _ _ e3
  omega

/-- What is left of a budget behind a list's length; below zero: -1. -/
def Left (w : World) (need : Nat) (left : Int) (e : Ending) (w' : World) : Prop := (∃ r : Int, e = .returned (.int .i64 r) ∧ (0 ≤ r → r + need = left) ∧ (r < 0 → r = -1 ∧ left < need)) ∧ w = w'

set_option maxHeartbeats 400000 in
theorem szInt64S_any (w : World) (A : Option Addr) (n c : Nat) (hn : n ≤ 9223372036854775807) (left : Int) (h0 : 0 ≤ left) (h1 : left ≤ 1048576) :
    Calls Try.prog 75 #[.slice A n c, .int .i64 left] w (Left w n left) := by
  by_cases h : left - n < 0
  · go_enter Try.func75, Try.ntmps75
    go_wp2_with fail
    go_ret
    exact ⟨⟨-1, rfl, by omega, by omega⟩, rfl⟩
  · go_enter Try.func75, Try.ntmps75
    go_wp2_with fail
    go_ret
    exact ⟨⟨left - n, rfl, by omega, by omega⟩, rfl⟩

def LeftL (w : World) (n : Nat) (xss : List (List Int)) (left : Int) (e : Ending) (w' : World) : Prop := (∃ r : Int, e = .returned (.int .i64 r) ∧ (0 ≤ r → (n : Int) + tot xss ≤ left) ∧ (r < 0 → r = -1)) ∧ w = w'

set_option maxHeartbeats 1000000 in
theorem szInt64SS_any (w : World) (A : Option Addr) (n c : Nat) (xss : List (List Int)) (hr : RdW w A n xss) (hn : n ≤ 9223372036854775807) (left : Int) (h0 : 0 ≤ left) (h1 : left ≤ 1048576) :
    Calls Try.prog 33 #[.slice A n c, .int .i64 left] w (LeftL w n xss left) := by
  have HL : Hid (xss.length = n) := Lib.hid hr.len
  by_cases h : left - n < 0
  · go_enter Try.func33, Try.ntmps33
    go_wp2_with fail
    go_ret
    exact ⟨⟨-1, rfl, by omega, by omega⟩, rfl⟩
  · have hn2 : n ≤ 1048576 := by omega
    go_enter Try.func33, Try.ntmps33
    go_wp2_with fail
    go_loop [1, 5] (fun q i => ∃ (k : Nat) (r : Int), q = .int .i64 r ∧ i = .int .i64 k ∧ k ≤ n ∧ 0 ≤ r ∧ r ≤ 1048576 ∧ Hid (r + n + tot (xss.take k) = left)) (fun _ i => n - (intOf i).toNat)
    case atStart => exact ⟨0, left - n, rfl, rfl, by omega, by omega, by omega, Lib.hid (by simp [tot])⟩
    case round =>
      obtain ⟨k, r, rfl, rfl, hk, hr0, hr1, HE⟩ := hrel
      by_cases hlt : k < n
      · obtain ⟨xs, hx⟩ := get_some (xs := xss) (k := k) (by rw [HL.out]; exact hlt)
        obtain ⟨b, off, A', n', c', rfl, hbs, hc, hn', hxl⟩ := hr.at_ hx
        have HTS := Lib.hid (tot_take_succ hx); have HXL := Lib.hid hxl
        clear hx hxl
        go_wp2_with fail
        refine (szInt64S_any _ _ _ _ hn' r hr0 hr1).mono ?_
        rintro e w1 ⟨⟨r2, rfl, a1, a2⟩, rfl⟩
        have HA1 := Lib.hid a1; have HA2 := Lib.hid a2
        clear a1 a2
        by_cases hneg : r2 < 0
        · go_wp2_with fail
          go_ret
          exact ⟨⟨-1, rfl, by omega, by omega⟩, rfl⟩
        · have hr2 : r2 ≤ 1048576 := by have := HA1.out (by omega); omega
          go_wp2_with fail
          go_round
          case rel => exact ⟨k + 1, r2, rfl, by go_num, by omega, by omega, hr2, Lib.hid (by have h1 := HA1.out (by omega); have h2 := HTS.out; have h3 := HXL.out; have h4 := HE.out; omega)⟩
          case measure => simp [intOf]; omega
      · go_wp2_with fail
        go_ret
        have e := HE.out
        rw [List.take_of_length_le (by rw [HL.out]; omega)] at e
        exact ⟨⟨r, rfl, by omega, by omega⟩, rfl⟩

set_option maxHeartbeats 400000 in
theorem l04Naturals_any (w : World) (A : Option Addr) (n c : Nat) (xss : List (List Int)) (hr : RdL w A n xss) (hn : n ≤ 1000000000) :
    Calls Try.prog 76 #[.slice A n c] w fun e w' => e = .returned (.bool (allNat xss)) ∧ w = w' := by
  have HL : Hid (xss.length = n) := Lib.hid hr.len
  go_enter Try.func76, Try.ntmps76
  go_wp2_with fail
  go_loop [3] (fun q => ∃ k : Nat, k ≤ n ∧ q = .int .i64 k ∧ Hid (allNat (xss.take k) = true)) (fun q => n - (intOf q).toNat)
  case atStart => exact ⟨0, Nat.zero_le _, rfl, Lib.hid (by simp [allNat])⟩
  case round =>
    obtain ⟨k, hk, rfl, hall⟩ := hrel
    by_cases h1 : k < n
    · obtain ⟨xs, hx⟩ := get_some (xs := xss) (k := k) (by rw [HL.out]; omega)
      obtain ⟨b, off, A', n', c', rfl, hbk, hcx, hn', hr'⟩ := hr.at_ hx
      have HX := Lib.hid hx
      clear hx
      by_cases hin : isNatB xs = true
      · go_wp2_with (go_at_call 62; refine (l02Is_any _ _ _ _ _ hr' (by omega)).mono ?_; rintro e w' ⟨rfl, rfl⟩)
        go_round
        case rel => exact ⟨k + 1, by omega, by go_num, Lib.hid (allNat_take_step hall.out HX.out hin)⟩
        case measure => simp [intOf]; omega
      · have hin' : isNatB xs = false := by simpa using hin
        clear hin
        go_wp2_with (go_at_call 62; refine (l02Is_any _ _ _ _ _ hr' (by omega)).mono ?_; rintro e w' ⟨rfl, rfl⟩)
        go_ret
        exact ⟨by rw [allNat_out HX.out hin']; rfl, rfl⟩
    · go_wp2_with fail
      go_ret
      have h := hall.out
      rw [List.take_of_length_le (by rw [HL.out]; omega)] at h
      exact ⟨by rw [h]; rfl, rfl⟩

theorem allNat_limbs {xss : List (List Int)} (h : allNat xss = true) : ∃ Xs : List Nat, xss = Xs.map limbs ∧ ∀ X ∈ Xs, (limbs X).length ≤ 40 := by
  induction xss with
  | nil => exact ⟨[], rfl, by simp⟩
  | cons xs r ih =>
    simp only [allNat, List.all_cons, Bool.and_eq_true] at h
    obtain ⟨Xs, rfl, hX⟩ := ih h.2
    obtain ⟨X, rfl, hX1⟩ := isNat_limbs h.1
    exact ⟨X :: Xs, rfl, fun Y hY => (List.mem_cons.1 hY).elim (fun e => by rw [e]; exact hX1) (fun h => hX Y h)⟩

/-- Pairs from the last on, with something added at each; none as soon as there are more than 40 limbs. -/
def tpv (P s : Nat) : List Nat → Option Nat
  | [] => some s
  | x :: r => match tpv P s r with
    | some N => if 40 < (limbs (pairVal x N + P)).length then none else some (pairVal x N + P)
    | none => none
theorem tpv_none {P s : Nat} {Xs : List Nat} {j : Nat} (h : tpv P s (Xs.drop j) = none) : tpv P s Xs = none := by
  induction Xs generalizing j with
  | nil => simpa using h
  | cons x r ih =>
    cases j with
    | zero => exact h
    | succ j =>
      have := ih (j := j) (by simpa using h)
      simp [tpv, this]
theorem tpv_step {P s N : Nat} {Xs : List Nat} {j x : Nat} (hx : Xs[j]? = some x) (h : tpv P s (Xs.drop (j + 1)) = some N) : tpv P s (Xs.drop j) = if 40 < (limbs (pairVal x N + P)).length then none else some (pairVal x N + P) := by
  rw [drop_get hx, tpv, h]
theorem tpv_len {P s N : Nat} (hs : (limbs s).length ≤ 40) : ∀ Xs : List Nat, tpv P s Xs = some N → (limbs N).length ≤ 40
  | [], h => by simp only [tpv, Option.some.injEq] at h; subst h; exact hs
  | x :: r, h => by
    simp only [tpv] at h
    split at h
    · split at h
      · cases h
      · injection h with h; subst h; omega
    · cases h
def tpRes (o : Option Nat) : List Int × Int := match o with | some N => (limbs N, 0) | none => ([], 5)
theorem map_get {Xs : List Nat} {j : Nat} {xs : List Int} (h : (Xs.map limbs)[j]? = some xs) : ∃ x, Xs[j]? = some x ∧ xs = limbs x := by
  rw [List.getElem?_map] at h
  obtain ⟨x, hx, rfl⟩ := Option.map_eq_some_iff.1 h
  exact ⟨x, hx, rfl⟩
theorem len_pair_plus {x N P : Nat} (hx : (limbs x).length ≤ 40) (hN : (limbs N).length ≤ 40) (hP : P ≤ 1) : (limbs (pairVal x N + P)).length ≤ 2000 := by
  have h1 := pairVal_len hx hN
  have h2 := limbs_len_add (pairVal x N) P
  have h3 := limbs_len_small (n := P) (by omega)
  omega

set_option maxHeartbeats 2000000 in
theorem tupleNumber_any (w : World) (A0 : Option Addr) (n0 c0 s : Nat) (hr0 : Rd w A0 n0 (ints (limbs s))) (hn0 : n0 ≤ 40) (A1 : Option Addr) (n1 c1 P : Nat) (hr1 : Rd w A1 n1 (ints (limbs P))) (hP : P ≤ 1) (A : Option Addr) (n c : Nat) (Xs : List Nat) (hr : RdL w A n (Xs.map limbs)) (hn : n ≤ 8) (hX : ∀ X ∈ Xs, (limbs X).length ≤ 40) :
    Calls Try.prog 77 #[.slice A0 n0 c0, .slice A1 n1 c1, .slice A n c] w (RetSI w 2 (ints (tpRes (tpv P s Xs)).1) (tpRes (tpv P s Xs)).2) := by
  have HL : Hid (Xs.length = n) := Lib.hid (by have := hr.len; simpa using this)
  have HS : Hid ((limbs s).length = n0) := Lib.hid (by simpa using hr0.1)
  have HP1 : Hid ((limbs P).length = n1) := Lib.hid (by simpa using hr1.1)
  have hn1 : n1 ≤ 3 := by rw [← HP1.out]; exact limbs_len_small (by omega)
  have HX := Lib.hid hX
  clear hX
  go_enter Try.func77, Try.ntmps77
  go_wp2_with fail
  refine (clone_any _ _ _ _ _ hr0 (by omega)).mono ?_
  rintro e w1 ⟨A2, n2, c2, rfl, ho2, hb2⟩
  have hn2 : n2 ≤ 40 := by rw [← own_limb_len ho2, HS.out]; exact hn0
  go_wp2_with fail
  go_loopw [8, 9] (fun v i wr => ∃ (j m N : Nat), i = .int .i64 ((j : Int) - 1) ∧ j ≤ n ∧ m ≤ 2000 ∧ Hid ((m ≤ 40 → tpv P s (Xs.drop j) = some N) ∧ (40 < m → tpv P s (Xs.drop j) = none)) ∧ wr.ownsRow w.heap.size 2 1 v m (ints (limbs N)) ∧ Below w.heap.size w wr) (fun _ i _ => (intOf i + 1).toNat)
  case atStart => exact ⟨n, n2, s, rfl, by omega, by omega, Lib.hid (by rw [List.drop_of_length_le (by rw [HL.out]; omega)]; exact ⟨fun _ => rfl, by omega⟩), ho2, hb2⟩
  case round =>
    obtain ⟨j, m, N, rfl, hj, hm, HG, hown, hb⟩ := hrel
    clear ho2 hb2
    obtain ⟨Ao, co, rfl, hco, _⟩ := own_form hown
    have hfin : Hid (40 < m ∨ j = 0 → fitOr N = (tpRes (tpv P s Xs)).1 ∧ fitCode N = (tpRes (tpv P s Xs)).2) := Lib.hid (by
      intro h
      have hl := own_limb_len hown
      by_cases h40 : 40 < m
      · rw [tpv_none (HG.out.2 h40)]
        have hf := fit_no (V := N) (by omega)
        exact ⟨hf.1, hf.2.2⟩
      · have hj0 : j = 0 := by omega
        have e := HG.out.1 (by omega)
        rw [hj0, List.drop_zero] at e
        rw [e]
        have hf := fit_yes (V := N) (by omega)
        exact ⟨hf.1, hf.2.2⟩)
    rcases Nat.eq_zero_or_pos j with h0 | h0
    · have hq : decide ((0 : Int) ≤ (j : Int) - 1) = false := by simp; omega
      have hj1 : (j : Int) - 1 < 0 := by omega
      have HFF := Lib.hid (hfin.out (.inr h0))
      clear h0
      go_wp2_with fail
      refine (limited_any _ _ _ _ _ _ hown (by omega)).mono ?_
      rintro e w5 ⟨⟨A5, n5, c5, rfl, ho5⟩, rfl⟩
      go_wp2_with fail
      go_ret2
      rw [← HFF.out.1, ← HFF.out.2]
      exact ⟨A5, n5, c5, rfl, ho5, hb⟩
    · obtain ⟨k, rfl⟩ : ∃ k, j = k + 1 := ⟨j - 1, by omega⟩
      have ek : (((k + 1 : Nat) : Int) - 1) = (k : Int) := by omega
      rw [ek]
      clear ek
      by_cases h40 : m ≤ 40
      · obtain ⟨xs, hx⟩ := get_some (xs := Xs.map limbs) (k := k) (by simp; rw [HL.out]; omega)
        obtain ⟨b, off, A', n', c', rfl, hbk, hcx, hn', hr'⟩ := hr.at_ hx
        obtain ⟨x, hxx, rfl⟩ := map_get hx
        have hcx1 := (hb.cell (p := ⟨b, off + k, none⟩) hbk).trans hcx
        have hx40 := HX.out x (List.mem_of_getElem? hxx)
        have hn'4 : n' ≤ 40 := by have h := hr'.1; simp at h; omega
        have HSTEP := Lib.hid (tpv_step hxx (HG.out.1 h40))
        have HN40 : Hid ((limbs N).length ≤ 40) := Lib.hid (by rw [own_limb_len hown]; exact h40)
        have HPP := Lib.hid (len_pair_plus hx40 HN40.out hP)
        have hkn : k < n := by omega
        clear hx hxx hcx
        go_wp2_with fail
        refine (pairOf_any _ _ _ _ x (hr'.below hb (Nat.le_refl _)) (by omega) _ _ _ N (own_rd hown) (by omega)).mono ?_
        rintro e w3 ⟨A3, n3, c3, rfl, ho3, hb3⟩
        have hn3 : n3 ≤ 1000 := own_len_le ho3 (pairVal_len hx40 HN40.out)
        have HB3 := Lib.hid (hb.trans (hb3.mono hb.size))
        go_wp2_with fail
        refine (add_any _ _ _ _ _ (own_rd ho3) (by omega) _ _ _ P (hr1.below HB3.out (Nat.le_refl _)) (by omega)).mono ?_
        rintro e w4 ⟨A4, n4, c4, rfl, ho4, hb4⟩
        have hn4 : n4 ≤ 2000 := own_len_le ho4 HPP.out
        have HB4 := Lib.hid (HB3.out.trans (hb4.mono HB3.out.size))
        go_wp2_with fail
        go_roundw
        case rel =>
          refine ⟨k, n4, pairVal x N + P, rfl, by omega, hn4, Lib.hid ?_, own_base ho4 HB3.out.size, HB4.out⟩
          rw [HSTEP.out, own_limb_len ho4]
          exact ⟨fun h => by rw [if_neg (by omega)], fun h => by rw [if_pos h]⟩
        case measure => simp only [intOf]; omega
      · have HFF := Lib.hid (hfin.out (.inl (by omega)))
        have hm40 : decide ((m : Int) ≤ 40) = false := by simp; omega
        go_wp2_with fail
        refine (limited_any _ _ _ _ _ _ hown (by omega)).mono ?_
        rintro e w5 ⟨⟨A5, n5, c5, rfl, ho5⟩, rfl⟩
        go_wp2_with fail
        go_ret2
        rw [← HFF.out.1, ← HFF.out.2]
        exact ⟨A5, n5, c5, rfl, ho5, hb⟩

def seqnNum (xss : List (List Int)) : List Int × Int := if allNat xss = true then (if xss.length ≤ 8 then tpRes (tpv 1 0 (xss.map natOf)) else ([], 2)) else ([], 1)
theorem natOf_map (Xs : List Nat) : (Xs.map limbs).map natOf = Xs := by
  induction Xs with
  | nil => rfl
  | cons x r ih => simp only [List.map_cons, natOf_limbs, ih]
theorem seqn_ok {Xs : List Nat} (h : allNat (Xs.map limbs) = true) (h8 : Xs.length ≤ 8) : seqnNum (Xs.map limbs) = tpRes (tpv 1 0 Xs) := by
  simp only [seqnNum, if_pos h, List.length_map, if_pos h8, natOf_map]
theorem seqn_range {xss : List (List Int)} (h : allNat xss = true) (h8 : ¬ xss.length ≤ 8) : seqnNum xss = ([], 2) := by simp only [seqnNum, if_pos h, if_neg h8]
theorem seqn_bad {xss : List (List Int)} (h : allNat xss = false) : seqnNum xss = ([], 1) := by simp [seqnNum, h]
theorem tpRes_len {P s : Nat} {Xs : List Nat} (hs : (limbs s).length ≤ 40) : (tpRes (tpv P s Xs)).1.length ≤ 1000000 := by
  cases h : tpv P s Xs with
  | none => simp [tpRes]
  | some N => have := tpv_len hs Xs h; simp only [tpRes]; omega
theorem seqnNum_len (xss : List (List Int)) : (seqnNum xss).1.length ≤ 1000000 := by
  simp only [seqnNum]
  split
  · split
    · exact tpRes_len (by simp [limbs_zero])
    · simp
  · simp

set_option maxHeartbeats 1000000 in
theorem implSequenceNumber_any (w : World) (A : Option Addr) (n c : Nat) (xss : List (List Int)) (hr : RdL w A n xss) (hn : n ≤ 1000000000) (_hc : n ≤ c) :
    Calls Try.prog 36 #[.slice A n c] w (RetSI w 2 (ints (seqnNum xss).1) (seqnNum xss).2) := by
  by_cases hN : allNat xss = true
  · by_cases h8 : n ≤ 8
    · obtain ⟨Xs, rfl, hX⟩ := allNat_limbs hN
      have hl := hr.len
      have HF := Lib.hid (seqn_ok hN (by simp at hl; omega))
      have hnil : Rd w none 0 (ints (limbs 0)) := by rw [limbs_zero]; exact Rd.nil _ _
      clear hl
      go_enter Try.func36, Try.ntmps36
      go_wp2_with (go_at_call 71; refine (naturals_any _ _ _ _ _ hr hn).mono ?_; rintro e w' ⟨rfl, rfl⟩)
      refine (one_any _).mono ?_
      rintro e w1 ⟨A1, n1, c1, rfl, ho1, hb1⟩
      go_wp2_with fail
      refine (tupleNumber_any _ _ _ _ 0 (hnil.below hb1 (Nat.le_refl _)) (by omega) _ _ _ 1 (own_rd ho1) (by omega) _ _ _ Xs (hr.below hb1 (Nat.le_refl _)) h8 hX).mono ?_
      rintro e w2 ⟨A2, n2, c2, rfl, ho2, hb2⟩
      go_wp2_with fail
      go_ret2
      rw [HF.out]
      exact ⟨A2, n2, c2, rfl, own_base ho2 hb1.size, hb1.trans (hb2.mono hb1.size)⟩
    · have HF := Lib.hid (seqn_range hN (by rw [hr.len]; exact h8))
      go_enter Try.func36, Try.ntmps36
      go_wp2_with (go_at_call 71; refine (naturals_any _ _ _ _ _ hr hn).mono ?_; rintro e w' ⟨rfl, rfl⟩)
      go_ret2
      rw [HF.out]
      exact ⟨none, 0, 0, rfl, own_nil _ _ _, Below.refl _ _⟩
  · have hN' : allNat xss = false := by simpa using hN
    have HF := Lib.hid (seqn_bad hN')
    clear hN
    go_enter Try.func36, Try.ntmps36
    go_wp2_with (go_at_call 71; refine (naturals_any _ _ _ _ _ hr hn).mono ?_; rintro e w' ⟨rfl, rfl⟩)
    go_ret2
    rw [HF.out]
    exact ⟨none, 0, 0, rfl, own_nil _ _ _, Below.refl _ _⟩

set_option maxHeartbeats 2000000 in
theorem specSequenceNumber_any (w : World) (A : Option Addr) (n c : Nat) (xss : List (List Int)) (hr : RdL w A n xss) (hn : n ≤ 1000000000) (_hc : n ≤ c) :
    Calls Try.prog 34 #[.slice A n c] w (RetSI w 2 (ints (seqnNum xss).1) (seqnNum xss).2) := by
  by_cases hN : allNat xss = true
  · by_cases h8 : n ≤ 8
    · obtain ⟨Xs, rfl, hX⟩ := allNat_limbs hN
      have hl := hr.len
      have HL : Hid (Xs.length = n) := Lib.hid (by simpa using hl)
      have HF := Lib.hid (seqn_ok hN (by rw [HL.out]; omega))
      have HX := Lib.hid hX
      clear hl hX
      go_enter Try.func34, Try.ntmps34
      go_wp2_with (go_at_call 76; refine (l04Naturals_any _ _ _ _ _ hr hn).mono ?_; rintro e w' ⟨rfl, rfl⟩)
      clear hN
      go_loopw [4, 5] (fun v i wr => ∃ (j m N : Nat), i = .int .i64 ((j : Int) - 1) ∧ j ≤ n ∧ m ≤ 40 ∧ Hid (tpv 1 0 (Xs.drop j) = some N) ∧ wr.ownsRow w.heap.size 2 1 v m (ints (limbs N)) ∧ Below w.heap.size w wr) (fun _ i _ => (intOf i + 1).toNat)
      case atStart => exact ⟨n, 0, 0, rfl, by omega, by omega, Lib.hid (by rw [List.drop_of_length_le (by rw [HL.out]; omega)]; rfl), own_zero w _, below_new _ _⟩
      case round =>
        obtain ⟨j, m, N, rfl, hj, hm, HG, hown, hb⟩ := hrel
        obtain ⟨Ao, co, rfl, hco, _⟩ := own_form hown
        rcases Nat.eq_zero_or_pos j with h0 | h0
        · subst h0
          go_wp2_with fail
          go_ret2
          have e := HG.out
          rw [List.drop_zero] at e
          rw [HF.out, e]
          exact ⟨Ao, m, co, rfl, hown, hb⟩
        · obtain ⟨k, rfl⟩ : ∃ k, j = k + 1 := ⟨j - 1, by omega⟩
          have ek : (((k + 1 : Nat) : Int) - 1) = (k : Int) := by omega
          rw [ek]
          clear ek
          obtain ⟨xs, hx⟩ := get_some (xs := Xs.map limbs) (k := k) (by simp; rw [HL.out]; omega)
          obtain ⟨b, off, A', n', c', rfl, hbk, hcx, hn', hr'⟩ := hr.at_ hx
          obtain ⟨x, hxx, rfl⟩ := map_get hx
          have hcx1 := (hb.cell (p := ⟨b, off + k, none⟩) hbk).trans hcx
          have hx40 := HX.out x (List.mem_of_getElem? hxx)
          have hn'4 : n' ≤ 40 := by have h := hr'.1; simp at h; omega
          have HSTEP := Lib.hid (tpv_step hxx HG.out)
          have HN40 : Hid ((limbs N).length ≤ 40) := Lib.hid (by rw [own_limb_len hown]; exact hm)
          have HPP := Lib.hid (len_pair_plus hx40 HN40.out (P := 1) (by omega))
          have hkn : k < n := by omega
          clear hx hxx hcx
          go_wp2_with fail
          refine (l04Pair_any _ _ _ _ x (hr'.below hb (Nat.le_refl _)) (by omega) _ _ _ N (own_rd hown) (by omega)).mono ?_
          rintro e w3 ⟨A3, n3, c3, rfl, ho3, hb3⟩
          have hn3 : n3 ≤ 1000 := own_len_le ho3 (pairVal_len hx40 HN40.out)
          have HB3 := Lib.hid (hb.trans (hb3.mono hb.size))
          have HO1 := Lib.hid (own_one w3 2)
          have HB3' := Lib.hid (HB3.out.trans ((below_new w3 (.cells #[.int .i64 1] 2)).mono HB3.out.size))
          go_wp2_with fail
          refine (l02Add_limbs _ _ _ _ _ ((own_rd ho3).alloc _) (by omega) _ _ _ 1 (own_rd HO1.out) (by omega)).mono ?_
          rintro e w4 ⟨A4, n4, c4, rfl, ho4, hb4⟩
          have hn4 : n4 ≤ 2000 := own_len_le ho4 HPP.out
          have HB4 := Lib.hid (HB3'.out.trans (hb4.mono HB3'.out.size))
          have HO4 := Lib.hid (own_base ho4 HB3'.out.size)
          have HL4 := Lib.hid (own_limb_len ho4)
          by_cases h40 : 40 < n4
          · go_wp2_with fail
            go_ret2
            rw [HF.out, tpv_none (j := k) (by rw [HSTEP.out, HL4.out, if_pos h40])]
            exact ⟨none, 0, 0, rfl, own_nil _ _ _, HB4.out⟩
          · go_wp2_with fail
            go_roundw
            case rel => exact ⟨k, n4, pairVal x N + 1, rfl, by omega, by omega, Lib.hid (by rw [HSTEP.out, HL4.out, if_neg h40]), HO4.out, HB4.out⟩
            case measure => simp only [intOf]; omega
    · have HF := Lib.hid (seqn_range hN (by rw [hr.len]; exact h8))
      go_enter Try.func34, Try.ntmps34
      go_wp2_with (go_at_call 76; refine (l04Naturals_any _ _ _ _ _ hr hn).mono ?_; rintro e w' ⟨rfl, rfl⟩)
      go_ret2
      rw [HF.out]
      exact ⟨none, 0, 0, rfl, own_nil _ _ _, Below.refl _ _⟩
  · have hN' : allNat xss = false := by simpa using hN
    have HF := Lib.hid (seqn_bad hN')
    clear hN
    go_enter Try.func34, Try.ntmps34
    go_wp2_with (go_at_call 76; refine (l04Naturals_any _ _ _ _ _ hr hn).mono ?_; rintro e w' ⟨rfl, rfl⟩)
    go_ret2
    rw [HF.out]
    exact ⟨none, 0, 0, rfl, own_nil _ _ _, Below.refl _ _⟩

set_option maxHeartbeats 8000000 in
set_option maxRecDepth 100000 in
theorem lawSequenceNumber (w : World) (A0 : Option Addr) (n0 c0 : Nat) (x0 : List (List Int)) (hw0 : RdW w A0 n0 x0) (hnn0 : n0 ≤ 9223372036854775807) :
    Calls Try.prog 10 #[.slice A0 n0 c0] w fun e w' => e = .returned (.bool true) ∧ Below w.heap.size w w' := by
  have hS : ∀ (w : World) (A0 : Option Addr) (n0 c0 : Nat) (h0 : RdL w A0 n0 x0) (hn0 : n0 ≤ 1000000000) (hcp0 : n0 ≤ c0), Calls Try.prog 34 #[.slice A0 n0 c0] w (RetSI w 2 (ints ((seqnNum x0).1)) ((seqnNum x0).2)) := fun w A0 n0 c0 h0 hn0 hcp0 => specSequenceNumber_any w A0 n0 c0 x0 h0 (by omega) hcp0
  have hI : ∀ (w : World) (A0 : Option Addr) (n0 c0 : Nat) (h0 : RdL w A0 n0 x0) (hn0 : n0 ≤ 1000000000) (hcp0 : n0 ≤ c0), Calls Try.prog 36 #[.slice A0 n0 c0] w (RetSI w 2 (ints ((seqnNum x0).1)) ((seqnNum x0).2)) := fun w A0 n0 c0 h0 hn0 hcp0 => implSequenceNumber_any w A0 n0 c0 x0 h0 (by omega) hcp0
  have HRL0 : Hid (((seqnNum x0).1).length ≤ 1000000) := Lib.hid (seqnNum_len _)
  have HS := Lib.hid hS; have HI := Lib.hid hI
  clear hS hI
  generalize (seqnNum x0).1 = r0 at HS HI HRL0
  generalize (seqnNum x0).2 = r1 at HS HI
  have HXL0 : Hid (x0.length = n0) := Lib.hid hw0.len
  have HB := Below.refl w.heap.size w
  go_enter Try.func10, Try.ntmps10
  go_wp2_with fail
  refine (szInt64SS_any _ _ _ _ x0 hw0 hnn0 _ (by omega) (by omega)).mono ?_
  rintro e v0 ⟨⟨r, rfl, hsz1, hsz2⟩, rfl⟩
  by_cases hrz : r < 0
  · clear hsz1 hsz2
    go_wp2_with fail
    go_ret
    exact ⟨rfl, HB⟩
  have hbig0 : n0 ≤ 1048576 := by have := hsz1 (by omega); omega
  have HTX0 : Hid (tot x0 ≤ 1048576) := Lib.hid (by have := hsz1 (by omega); omega)
  clear hsz1 hsz2
  have hr0 := hw0.rdl (by have := HTX0.out; omega)
  go_wp2_with fail
  refine (toInt64SS_any _ _ _ _ x0 (hr0.below HB (Nat.le_refl _)) (by omega)).mono ?_
  rintro e v1 ⟨Ao1, no1, co1, rfl, hoo1, hbv1⟩
  have hno1 : no1 ≤ 1048576 := by have := hoo1.len; have := HXL0.out; omega
  replace HB := HB.trans (hbv1.mono HB.size)
  have hszv1 := hbv1.size
  go_wp2_with fail
  refine (HS.out _ _ _ _ hoo1.rdl (by omega) hoo1.cap).mono ?_
  rintro e v2 ⟨Ao2, no2, co2, rfl, hoo2, hbv2⟩
  have hno2 : no2 ≤ 1000000 := by have := hoo2.1; simp at this; have := HRL0.out; omega
  replace hoo1 := hoo1.below hbv2 (Nat.le_refl _) (by omega)
  replace HB := HB.trans (hbv2.mono HB.size)
  have hszv2 := hbv2.size
  have hrgo2 : Hid (∀ k, (Value.slice Ao2 no2 co2).ownBlock = some k → v1.heap.size ≤ k ∧ k < v2.heap.size) := Lib.hid fun k hk => hoo2.lt k hk
  go_wp2_with fail
  refine (toInt64SS_any _ _ _ _ x0 (hr0.below HB (Nat.le_refl _)) (by omega)).mono ?_
  rintro e v3 ⟨Ao3, no3, co3, rfl, hoo3, hbv3⟩
  have hno3 : no3 ≤ 1048576 := by have := hoo3.len; have := HXL0.out; omega
  replace hoo1 := hoo1.below hbv3 (Nat.le_refl _) (by omega)
  replace hoo2 := own_below hoo2 hbv3 (Nat.le_refl _)
  replace HB := HB.trans (hbv3.mono HB.size)
  have hszv3 := hbv3.size
  go_wp2_with fail
  refine (HI.out _ _ _ _ hoo3.rdl (by omega) hoo3.cap).mono ?_
  rintro e v4 ⟨Ao4, no4, co4, rfl, hoo4, hbv4⟩
  have hno4 : no4 ≤ 1000000 := by have := hoo4.1; simp at this; have := HRL0.out; omega
  replace hoo1 := hoo1.below hbv4 (Nat.le_refl _) (by omega)
  replace hoo2 := own_below hoo2 hbv4 (Nat.le_refl _)
  replace hoo3 := hoo3.below hbv4 (Nat.le_refl _) (by omega)
  replace HB := HB.trans (hbv4.mono HB.size)
  have hszv4 := hbv4.size
  have hrgo4 : Hid (∀ k, (Value.slice Ao4 no4 co4).ownBlock = some k → v3.heap.size ≤ k ∧ k < v4.heap.size) := Lib.hid fun k hk => hoo4.lt k hk
  go_wp2_with fail
  refine (eq_same _ _ _ _ _ (own_rd hoo4) (by omega) _ _ _ (own_rd hoo2)).mono ?_
  rintro e v5 ⟨rfl, hbv5⟩
  replace hoo1 := hoo1.below hbv5 (Nat.le_refl _) (by omega)
  replace hoo2 := own_below hoo2 hbv5 (Nat.le_refl _)
  replace hoo3 := hoo3.below hbv5 (Nat.le_refl _) (by omega)
  replace hoo4 := own_below hoo4 hbv5 (Nat.le_refl _)
  replace HB := HB.trans (hbv5.mono HB.size)
  have hszv5 := hbv5.size
  go_wp2_with fail
  refine (toInt64SS_any _ _ _ _ x0 (hr0.below HB (Nat.le_refl _)) (by omega)).mono ?_
  rintro e v6 ⟨Ao5, no5, co5, rfl, hoo5, hbv6⟩
  have hno5 : no5 ≤ 1048576 := by have := hoo5.len; have := HXL0.out; omega
  replace hoo1 := hoo1.below hbv6 (Nat.le_refl _) (by omega)
  replace hoo2 := own_below hoo2 hbv6 (Nat.le_refl _)
  replace hoo3 := hoo3.below hbv6 (Nat.le_refl _) (by omega)
  replace hoo4 := own_below hoo4 hbv6 (Nat.le_refl _)
  replace HB := HB.trans (hbv6.mono HB.size)
  have hszv6 := hbv6.size
  go_wp2_with fail
  refine (eqL_same _ _ _ _ _ hoo3.rdl (by omega) _ _ _ hoo5.rdl).mono ?_
  rintro e v7 ⟨rfl, hbv7⟩
  replace hoo1 := hoo1.below hbv7 (Nat.le_refl _) (by omega)
  replace hoo2 := own_below hoo2 hbv7 (Nat.le_refl _)
  replace hoo3 := hoo3.below hbv7 (Nat.le_refl _) (by omega)
  replace hoo4 := own_below hoo4 hbv7 (Nat.le_refl _)
  replace hoo5 := hoo5.below hbv7 (Nat.le_refl _) (by omega)
  replace HB := HB.trans (hbv7.mono HB.size)
  have hszv7 := hbv7.size
  go_wp2_with fail
  have hTv8 : tot x0 ≤ 1048576 := by have := HTX0.out; omega
  refine (markInt64SS_any _ _ _ _ _ _ x0 hoo3 (by omega) (by omega) (1) (by omega) (by omega)).mono ?_
  rintro e v8 ⟨rfl, hmo3, hOv8⟩
  replace hoo1 := hoo1.out hOv8 (by omega)
  replace hoo2 := own_out hoo2 hrgo2.out hOv8 (by omega)
  replace hoo4 := own_out hoo4 hrgo4.out hOv8 (by omega)
  replace hoo5 := hoo5.out hOv8 (by omega)
  replace HB := below_out HB hOv8 (by omega) HB.size
  replace hoo3 := hmo3
  have hszv8 := hOv8.size
  go_wp2_with fail
  refine (eq_same _ _ _ _ _ (own_rd hoo4) (by omega) _ _ _ (own_rd hoo2)).mono ?_
  rintro e v9 ⟨rfl, hbv9⟩
  replace hoo1 := hoo1.below hbv9 (Nat.le_refl _) (by omega)
  replace hoo2 := own_below hoo2 hbv9 (Nat.le_refl _)
  replace hoo3 := hoo3.below hbv9 (Nat.le_refl _) (by omega)
  replace hoo4 := own_below hoo4 hbv9 (Nat.le_refl _)
  replace hoo5 := hoo5.below hbv9 (Nat.le_refl _) (by omega)
  replace HB := HB.trans (hbv9.mono HB.size)
  have hszv9 := hbv9.size
  go_wp2_with fail
  refine (markInt64S_any _ _ _ _ _ _ hoo4 (by omega) (1) (by omega) (by omega)).mono ?_
  rintro e v10 ⟨rfl, hmo4, hgv10⟩
  have hOv10 : Outside v3.heap.size v4.heap.size _ v10 := out_grown hgv10 hrgo4.out
  replace hoo1 := hoo1.out hOv10 (by omega)
  replace hoo2 := own_out hoo2 hrgo2.out hOv10 (by omega)
  replace hoo3 := hoo3.out hOv10 (by omega)
  replace hoo5 := hoo5.out hOv10 (by omega)
  replace HB := below_out HB hOv10 (by omega) HB.size
  replace hoo4 := hmo4
  have hszv10 := hOv10.size
  go_wp2_with fail
  refine (heldInt64S_any _ _ _ _ (1) (own_rd hoo4) (by omega) (by omega) (by omega)).mono ?_
  rintro e v11 ⟨rfl, hbv11⟩
  replace hoo1 := hoo1.below hbv11 (Nat.le_refl _) (by omega)
  replace hoo2 := own_below hoo2 hbv11 (Nat.le_refl _)
  replace hoo3 := hoo3.below hbv11 (Nat.le_refl _) (by omega)
  replace hoo4 := own_below hoo4 hbv11 (Nat.le_refl _)
  replace hoo5 := hoo5.below hbv11 (Nat.le_refl _) (by omega)
  replace HB := HB.trans (hbv11.mono HB.size)
  have hszv11 := hbv11.size
  go_wp2_with fail
  refine (toInt64SS_any _ _ _ _ x0 (hr0.below HB (Nat.le_refl _)) (by omega)).mono ?_
  rintro e v12 ⟨Ao6, no6, co6, rfl, hoo6, hbv12⟩
  have hno6 : no6 ≤ 1048576 := by have := hoo6.len; have := HXL0.out; omega
  replace hoo1 := hoo1.below hbv12 (Nat.le_refl _) (by omega)
  replace hoo2 := own_below hoo2 hbv12 (Nat.le_refl _)
  replace hoo3 := hoo3.below hbv12 (Nat.le_refl _) (by omega)
  replace hoo4 := own_below hoo4 hbv12 (Nat.le_refl _)
  replace hoo5 := hoo5.below hbv12 (Nat.le_refl _) (by omega)
  replace HB := HB.trans (hbv12.mono HB.size)
  have hszv12 := hbv12.size
  go_wp2_with fail
  refine (HI.out _ _ _ _ hoo6.rdl (by omega) hoo6.cap).mono ?_
  rintro e v13 ⟨Ao7, no7, co7, rfl, hoo7, hbv13⟩
  have hno7 : no7 ≤ 1000000 := by have := hoo7.1; simp at this; have := HRL0.out; omega
  replace hoo1 := hoo1.below hbv13 (Nat.le_refl _) (by omega)
  replace hoo2 := own_below hoo2 hbv13 (Nat.le_refl _)
  replace hoo3 := hoo3.below hbv13 (Nat.le_refl _) (by omega)
  replace hoo4 := own_below hoo4 hbv13 (Nat.le_refl _)
  replace hoo5 := hoo5.below hbv13 (Nat.le_refl _) (by omega)
  replace hoo6 := hoo6.below hbv13 (Nat.le_refl _) (by omega)
  replace HB := HB.trans (hbv13.mono HB.size)
  have hszv13 := hbv13.size
  have hrgo7 : Hid (∀ k, (Value.slice Ao7 no7 co7).ownBlock = some k → v12.heap.size ≤ k ∧ k < v13.heap.size) := Lib.hid fun k hk => hoo7.lt k hk
  go_wp2_with fail
  refine (eq_same _ _ _ _ _ (own_rd hoo7) (by omega) _ _ _ (own_rd hoo2)).mono ?_
  rintro e v14 ⟨rfl, hbv14⟩
  replace hoo1 := hoo1.below hbv14 (Nat.le_refl _) (by omega)
  replace hoo2 := own_below hoo2 hbv14 (Nat.le_refl _)
  replace hoo3 := hoo3.below hbv14 (Nat.le_refl _) (by omega)
  replace hoo4 := own_below hoo4 hbv14 (Nat.le_refl _)
  replace hoo5 := hoo5.below hbv14 (Nat.le_refl _) (by omega)
  replace hoo6 := hoo6.below hbv14 (Nat.le_refl _) (by omega)
  replace hoo7 := own_below hoo7 hbv14 (Nat.le_refl _)
  replace HB := HB.trans (hbv14.mono HB.size)
  have hszv14 := hbv14.size
  go_wp2_with fail
  refine (heldInt64S_any _ _ _ _ (1) (own_rd hoo4) (by omega) (by omega) (by omega)).mono ?_
  rintro e v15 ⟨rfl, hbv15⟩
  replace hoo1 := hoo1.below hbv15 (Nat.le_refl _) (by omega)
  replace hoo2 := own_below hoo2 hbv15 (Nat.le_refl _)
  replace hoo3 := hoo3.below hbv15 (Nat.le_refl _) (by omega)
  replace hoo4 := own_below hoo4 hbv15 (Nat.le_refl _)
  replace hoo5 := hoo5.below hbv15 (Nat.le_refl _) (by omega)
  replace hoo6 := hoo6.below hbv15 (Nat.le_refl _) (by omega)
  replace hoo7 := own_below hoo7 hbv15 (Nat.le_refl _)
  replace HB := HB.trans (hbv15.mono HB.size)
  have hszv15 := hbv15.size
  go_wp2_with fail
  go_ret
  exact ⟨rfl, HB⟩
end Go.Proofs.Ytdpkcnjoklnoeaa
