/- Digits of a natural, and WeaveNaturals. -/
import Derived.Test.YtdpkcnjoklnoeaaPair2
import Derived.Test.YtdpkcnjoklnoeaaMem2
import Derived.Deep.LoopGhost
namespace Go.Proofs.Ytdpkcnjoklnoeaa
open Go.RowKit Limb

def digs (b n : Nat) : List Int := if n = 0 ∨ b < 2 then [] else ((n % b : Nat) : Int) :: digs b (n / b)
termination_by n
decreasing_by
  rename_i h
  exact Nat.div_lt_self (by omega) (by omega)
theorem digs_zero (b : Nat) : digs b 0 = [] := by rw [digs]; simp
theorem digs_pos {b n : Nat} (hb : 2 ≤ b) (h : 0 < n) : digs b n = ((n % b : Nat) : Int) :: digs b (n / b) := by
  rw [digs, if_neg (by omega)]
theorem digs_in {b : Nat} (hb : 2 ≤ b) (n : Nat) : ∀ d ∈ digs b n, 0 ≤ d ∧ d < b := by
  induction n using Nat.strongRecOn with
  | _ n ih =>
    rcases Nat.eq_zero_or_pos n with h | h
    · subst h; simp [digs_zero]
    · rw [digs_pos hb h]
      intro d hd
      rcases List.mem_cons.1 hd with rfl | hd
      · have := Nat.mod_lt n (show b > 0 by omega); omega
      · exact ih _ (Nat.div_lt_self h (by omega)) d hd
theorem digs_len {b : Nat} (hb : 2 ≤ b) {n k : Nat} (h : n < b ^ k) : (digs b n).length ≤ k := by
  induction k generalizing n with
  | zero => simp at h; subst h; simp [digs_zero]
  | succ k ih =>
    rcases Nat.eq_zero_or_pos n with h0 | h0
    · subst h0; simp [digs_zero]
    · rw [digs_pos hb h0, List.length_cons]
      have := ih (n := n / b) (by rw [Nat.div_lt_iff_lt_mul (by omega)]; rwa [Nat.pow_succ] at h)
      omega
theorem digs_len_limbs {b : Nat} (hb : 2 ≤ b) (X : Nat) : (digs b X).length ≤ 20 * (limbs X).length := by
  refine digs_len hb (Nat.lt_of_lt_of_le (limbs_lt X) ?_)
  rw [Nat.pow_mul]
  refine Nat.pow_le_pow_left ?_ _
  have h1 : 2 ^ 20 ≤ b ^ 20 := Nat.pow_le_pow_left hb 20
  have h2 : (1000000 : Nat) ≤ 2 ^ 20 := by decide
  omega

/-- The relation of both loops: the digits that are there, the number that is left. -/
def DgRel (w : World) (e b X : Nat) (m : Nat) (q v : Value) (wr : World) : Prop :=
  ∃ (A : Option Addr) (n c : Nat) (k : Nat) (out : List Int), q = .slice A n c ∧ Rd wr A n (ints (limbs m)) ∧ n ≤ 100000 ∧ out.length = k ∧ digs b X = out ++ digs b m ∧ k ≤ 10000000 ∧ wr.ownsRow w.heap.size e 1 v k (ints out) ∧ Below w.heap.size w wr

set_option maxHeartbeats 1000000 in
theorem l02Digits_any (w : World) (A : Option Addr) (n c : Nat) (X : Nat) (hr : Rd w A n (ints (limbs X))) (hn : n ≤ 100000) (b : Int) (hb0 : 2 ≤ b) (hb1 : b ≤ 1000000) :
    Calls Try.prog 73 #[.slice A n c, .int .i64 b] w (RetS w 2 (ints (digs b.toNat X))) := by
  have HTL : Hid ((digs b.toNat X).length ≤ 2000000) := Lib.hid (by
    have h1 := digs_len_limbs (b := b.toNat) (by omega) X
    have h2 := hr.1
    simp at h2
    omega)
  go_enter Try.func73, Try.ntmps73
  go_wp2_with fail
  go_loopg [0, 5] X (fun m q v wr => DgRel w 2 b.toNat X m q v wr)
  case atStart => exact ⟨A, n, c, 0, [], rfl, hr.alloc _, hn, rfl, by simp, by omega, own_lit w #[] 0 2 rfl (by omega), below_new _ _⟩
  case round =>
    obtain ⟨A, n, c, k, out, rfl, hr, hn, hk, hd, hkb, hown, hb⟩ := hrel
    obtain ⟨Ao, co, rfl, hco, _⟩ := own_form hown
    have HL : Hid ((limbs gk).length = n) := Lib.hid (by simpa using hr.1)
    have HK := Lib.hid hk; have HD := Lib.hid hd
    clear hk hd
    have hbs := hb.size
    rcases Nat.eq_zero_or_pos n with h0 | h0
    · have hg : Hid (gk = 0) := Lib.hid ((limbs_zero_iff HL.out).1 h0)
      go_wp2_with fail
      go_ret
      rw [HD.out, hg.out, digs_zero, List.append_nil]
      exact ⟨Ao, k, co, rfl, hown, hb⟩
    · have hg : Hid (0 < gk) := Lib.hid (by
        rcases Nat.eq_zero_or_pos gk with h | h
        · have := (limbs_zero_iff HL.out).2 h; omega
        · exact h)
      go_wp2_with fail
      refine (l02By_any _ _ _ _ gk hr (by omega) b (by omega) hb1).mono ?_
      rintro e w1 ⟨A1, n1, c1, rfl, ho1, hb1'⟩
      have hn1 : n1 ≤ 100000 := own_len_le ho1 (Nat.le_trans (limbs_len_mono (Nat.div_le_self _ _)) (by rw [HL.out]; omega))
      have hown1 := own_below hown hb1' (Nat.le_refl _)
      have hB1 := hb.trans (hb1'.mono hb.size)
      have hbs1 := hB1.size
      have HKB : Hid (k + 1 ≤ 2000000) := Lib.hid (by
        have h1 := HTL.out
        rw [HD.out, digs_pos (by omega) hg.out] at h1
        simp at h1
        have := HK.out
        omega)
      have HLO := Lib.hid (fun k hk => (hown.lt k hk).2)
      clear hown hb hr hb1' hbs
      go_wp2_with (at_builtin; go_must (refine wpList_app1g Try.eltI rfl _ _ rfl w1 w.heap.size _ k _ (by rfl) hown1 _ (by rfl) (by rfl) (by omega) (by omega) ?_); rintro A2 c2 w2 hown2 hb2 hg2)
      go_roundg (gk / b.toNat)
      case measure => exact Nat.div_lt_self hg.out (by omega)
      case rel =>
        refine ⟨A1, n1, c1, k + 1, out ++ [_], rfl, ?_, hn1, by simp [HK.out], ?_, by have := HKB.out; omega, by rw [ints_snoc] at hown2; exact hown2, hB1.trans hb2⟩
        · exact own_rd (own_apart ho1 hg2 (fun k h1 h2 => by have := (ho1.lt k h1).1; have := HLO.out k h2; omega))
        · rw [HD.out, digs_pos (by omega) hg.out]; simp

def dgNum (xs : List Int) (b : Int) : List Int × Int :=
  if isNatB xs = true then (if inB b 2 1000000 = true then (digs b.toNat (natOf xs), 0) else ([], 2)) else ([], 1)

set_option maxHeartbeats 1000000 in
theorem digitsOf_any (w : World) (A : Option Addr) (n c : Nat) (xs : List Int) (hr : Rd w A n (ints xs)) (hn : n ≤ 1000000000) (b : Int) :
    Calls Try.prog 74 #[.slice A n c, .int .i64 b] w (RetSI w 2 (ints (dgNum xs b).1) (dgNum xs b).2) := by
  by_cases hN : isNatB xs = true
  · by_cases hbb : inB b 2 1000000 = true
    · have hb' := inB_true.1 hbb
      have hb0 := hb'.1
      have hb1 := hb'.2
      obtain ⟨X, rfl, hX⟩ := isNat_limbs hN
      have HF : Hid (dgNum (limbs X) b = (digs b.toNat X, 0)) := Lib.hid (by simp [dgNum, hN, hbb, natOf_limbs])
      have hn40 : n ≤ 40 := by have h := hr.1; simp at h; omega
      have HTL : Hid ((digs b.toNat X).length ≤ 2000000) := Lib.hid (by
        have h1 := digs_len_limbs (b := b.toNat) (by omega) X
        omega)
      clear hX hb'
      go_enter Try.func74, Try.ntmps74
      go_wp2_with (first
        | (go_at_call 65; refine (isNatural_any _ _ _ _ _ hr (by omega)).mono ?_; rintro e w' ⟨rfl, rfl⟩)
        | (go_at_call 59; refine (within_any _ _ _ _).mono ?_; rintro e w' ⟨rfl, rfl⟩))
      clear hN hbb
      go_loopg [0, 6] X (fun m q v wr => DgRel w 2 b.toNat X m q v wr)
      case atStart => exact ⟨A, n, c, 0, [], rfl, hr.alloc _, by omega, rfl, by simp, by omega, own_lit w #[] 0 2 rfl (by omega), below_new _ _⟩
      case round =>
        obtain ⟨A, n, c, k, out, rfl, hr, hn, hk, hd, hkb, hown, hb⟩ := hrel
        obtain ⟨Ao, co, rfl, hco, _⟩ := own_form hown
        have HL : Hid ((limbs gk).length = n) := Lib.hid (by simpa using hr.1)
        have HK := Lib.hid hk; have HD := Lib.hid hd
        clear hk hd
        have hbs := hb.size
        rcases Nat.eq_zero_or_pos n with h0 | h0
        · have hg : Hid (gk = 0) := Lib.hid ((limbs_zero_iff HL.out).1 h0)
          go_wp2_with fail
          go_ret2
          rw [HF.out, HD.out, hg.out, digs_zero, List.append_nil]
          exact ⟨Ao, k, co, rfl, hown, hb⟩
        · have hg : Hid (0 < gk) := Lib.hid (by
            rcases Nat.eq_zero_or_pos gk with h | h
            · have := (limbs_zero_iff HL.out).2 h; omega
            · exact h)
          go_wp2_with fail
          refine (divideSmall_any _ _ _ _ gk hr (by omega) b (by omega) hb1).mono ?_
          rintro e w1 ⟨A1, n1, c1, rfl, ho1, hb1'⟩
          have hn1 : n1 ≤ 100000 := own_len_le ho1 (Nat.le_trans (limbs_len_mono (Nat.div_le_self _ _)) (by rw [HL.out]; omega))
          have hown1 := own_below hown hb1' (Nat.le_refl _)
          have hB1 := hb.trans (hb1'.mono hb.size)
          have hbs1 := hB1.size
          have HKB : Hid (k + 1 ≤ 2000000) := Lib.hid (by
            have h1 := HTL.out
            rw [HD.out, digs_pos (by omega) hg.out] at h1
            simp at h1
            have := HK.out
            omega)
          have HLO := Lib.hid (fun k hk => (hown.lt k hk).2)
          clear hown hb hr hb1' hbs
          go_wp2_with (at_builtin; go_must (refine wpList_app1g Try.eltI rfl _ _ rfl w1 w.heap.size _ k _ (by rfl) hown1 _ (by rfl) (by rfl) (by omega) (by omega) ?_); rintro A2 c2 w2 hown2 hb2 hg2)
          go_roundg (gk / b.toNat)
          case measure => exact Nat.div_lt_self hg.out (by omega)
          case rel =>
            refine ⟨A1, n1, c1, k + 1, out ++ [_], rfl, ?_, hn1, by simp [HK.out], ?_, by have := HKB.out; omega, by rw [ints_snoc] at hown2; exact hown2, hB1.trans hb2⟩
            · exact own_rd (own_apart ho1 hg2 (fun k h1 h2 => by have := (ho1.lt k h1).1; have := HLO.out k h2; omega))
            · rw [HD.out, digs_pos (by omega) hg.out]; simp
    · have hbb' : inB b 2 1000000 = false := by simpa using hbb
      have HF : Hid (dgNum xs b = ([], 2)) := Lib.hid (by simp [dgNum, hN, hbb'])
      clear hbb
      go_enter Try.func74, Try.ntmps74
      go_wp2_with (first
        | (go_at_call 65; refine (isNatural_any _ _ _ _ _ hr (by omega)).mono ?_; rintro e w' ⟨rfl, rfl⟩)
        | (go_at_call 59; refine (within_any _ _ _ _).mono ?_; rintro e w' ⟨rfl, rfl⟩))
      go_ret2
      rw [HF.out]
      exact ⟨none, 0, 0, rfl, own_nil _ _ _, Below.refl _ _⟩
  · have hN' : isNatB xs = false := by simpa using hN
    have HF : Hid (dgNum xs b = ([], 1)) := Lib.hid (by simp [dgNum, hN'])
    clear hN
    go_enter Try.func74, Try.ntmps74
    go_wp2_with (first
      | (go_at_call 65; refine (isNatural_any _ _ _ _ _ hr (by omega)).mono ?_; rintro e w' ⟨rfl, rfl⟩))
    go_ret2
    rw [HF.out]
    exact ⟨none, 0, 0, rfl, own_nil _ _ _, Below.refl _ _⟩

/-- Two lists of digits, woven: M pairs. -/
def wv (xs ys : List Int) : Nat → List Int
  | 0 => []
  | M + 1 => wv xs ys M ++ [xs.getD M 0, ys.getD M 0]
theorem wv_len (xs ys : List Int) (M : Nat) : (wv xs ys M).length = 2 * M := by
  induction M with
  | zero => rfl
  | succ M ih => simp [wv, ih]; omega
theorem wv_even (xs ys : List Int) (M i : Nat) (h : i < M) : (wv xs ys M)[2 * i]? = some (xs.getD i 0) := by
  induction M with
  | zero => omega
  | succ M ih =>
    simp only [wv]
    by_cases hi : i < M
    · rw [List.getElem?_append_left (by rw [wv_len]; omega)]; exact ih hi
    · obtain rfl : i = M := by omega
      rw [List.getElem?_append_right (by rw [wv_len]; omega), wv_len]; simp
theorem wv_odd (xs ys : List Int) (M i : Nat) (h : i < M) : (wv xs ys M)[2 * i + 1]? = some (ys.getD i 0) := by
  induction M with
  | zero => omega
  | succ M ih =>
    simp only [wv]
    by_cases hi : i < M
    · rw [List.getElem?_append_left (by rw [wv_len]; omega)]; exact ih hi
    · obtain rfl : i = M := by omega
      rw [List.getElem?_append_right (by rw [wv_len]; omega), wv_len, show 2 * i + 1 - 2 * i = 1 by omega]; simp
theorem wv_ext {cs xs ys : List Int} {M : Nat} (hl : cs.length = 2 * M) (he : ∀ i, i < M → cs[2 * i]? = some (xs.getD i 0)) (ho : ∀ i, i < M → cs[2 * i + 1]? = some (ys.getD i 0)) : cs = wv xs ys M := by
  apply List.ext_getElem?
  intro n
  by_cases hn : n < 2 * M
  · rcases Nat.mod_two_eq_zero_or_one n with h | h
    · obtain ⟨i, rfl⟩ : ∃ i, n = 2 * i := ⟨n / 2, by omega⟩
      rw [he i (by omega), wv_even _ _ _ _ (by omega)]
    · obtain ⟨i, rfl⟩ : ∃ i, n = 2 * i + 1 := ⟨n / 2, by omega⟩
      rw [ho i (by omega), wv_odd _ _ _ _ (by omega)]
  · rw [List.getElem?_eq_none (by omega), List.getElem?_eq_none (by rw [wv_len]; omega)]
theorem wv_zs (M : Nat) : zs (2 * M) = wv [] [] M := by
  refine wv_ext (by simp [zs]) (fun i hi => ?_) (fun i hi => ?_)
  · simp [zs, List.getElem?_replicate]; omega
  · simp [zs, List.getElem?_replicate]; omega
theorem take_getD (xs : List Int) (j i : Nat) : (xs.take j).getD i 0 = if i < j then xs.getD i 0 else 0 := by
  simp only [List.getD_eq_getElem?_getD, List.getElem?_take]
  split <;> simp
theorem wv_set_even {xs ys : List Int} {M j : Nat} {x : Int} (hj : j < M) (hx : xs[j]? = some x) : (wv (xs.take j) ys M).set (2 * j) x = wv (xs.take (j + 1)) ys M := by
  refine wv_ext (by simp [wv_len]) (fun i hi => ?_) (fun i hi => ?_)
  · rw [List.getElem?_set, wv_len]
    by_cases h : i = j
    · subst h
      rw [if_pos rfl, if_pos (by omega), take_getD, if_pos (by omega), List.getD_eq_getElem?_getD, hx]; rfl
    · rw [if_neg (by omega), wv_even _ _ _ _ hi, take_getD, take_getD]
      by_cases h2 : i < j
      · rw [if_pos h2, if_pos (by omega)]
      · rw [if_neg h2, if_neg (by omega)]
  · rw [List.getElem?_set_ne (by omega), wv_odd _ _ _ _ hi]
theorem wv_set_odd {xs ys : List Int} {M j : Nat} {y : Int} (hj : j < M) (hy : ys[j]? = some y) : (wv xs (ys.take j) M).set (2 * j + 1) y = wv xs (ys.take (j + 1)) M := by
  refine wv_ext (by simp [wv_len]) (fun i hi => ?_) (fun i hi => ?_)
  · rw [List.getElem?_set_ne (by omega), wv_even _ _ _ _ hi]
  · rw [List.getElem?_set, wv_len]
    by_cases h : i = j
    · subst h
      rw [if_pos rfl, if_pos (by omega), take_getD, if_pos (by omega), List.getD_eq_getElem?_getD, hy]; rfl
    · rw [if_neg (by omega), wv_odd _ _ _ _ hi, take_getD, take_getD]
      by_cases h2 : i < j
      · rw [if_pos h2, if_pos (by omega)]
      · rw [if_neg h2, if_neg (by omega)]
theorem wv_in {xs ys : List Int} {b : Int} (hb : 0 < b) (hx : ∀ d ∈ xs, 0 ≤ d ∧ d < b) (hy : ∀ d ∈ ys, 0 ≤ d ∧ d < b) (M : Nat) : ∀ d ∈ wv xs ys M, 0 ≤ d ∧ d < b := by
  have hg : ∀ (zs : List Int), (∀ d ∈ zs, 0 ≤ d ∧ d < b) → ∀ i, 0 ≤ zs.getD i 0 ∧ zs.getD i 0 < b := by
    intro zs hz i
    by_cases h : i < zs.length
    · rw [List.getD_eq_getElem?_getD, List.getElem?_eq_getElem h]; exact hz _ (List.getElem_mem h)
    · rw [List.getD_eq_getElem?_getD, List.getElem?_eq_none (by omega)]; simp; omega
  induction M with
  | zero => simp [wv]
  | succ M ih =>
    intro d hd
    simp only [wv, List.mem_append, List.mem_cons, List.not_mem_nil, or_false] at hd
    rcases hd with hd | rfl | rfl
    · exact ih d hd
    · exact hg xs hx M
    · exact hg ys hy M
end Go.Proofs.Ytdpkcnjoklnoeaa
