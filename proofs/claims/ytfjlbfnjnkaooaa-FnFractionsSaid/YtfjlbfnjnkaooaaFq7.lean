/- Programs of fractions that are drawn, with a natural: B10Fractions; b10At. -/
import Derived.Test.YtfjlbfnjnkaooaaFq6
namespace Go.Proofs.Ytfjlbfnjnkaooaa
open Go.RowKit Limb
set_option linter.unusedSimpArgs false
set_option linter.unusedVariables false
structure BfS (w wr : World) (A : Option Addr) (n c : Nat) (bs : List Int) (K : Nat) (AF : Option Addr) (nF cF : Nat) (fs : List Fr) (gp : Nat) (A6 : Option Addr) (n6 c6 N : Nat) : Prop where
  src : SrcS wr w.heap.size A n c bs K
  fr : wr.ownsRow (w.heap.size + 1) 39 2 (.slice AF nF cF) nF (ints (flatF fs))
  pr : wr.ownsRow (w.heap.size + 1) 2 1 (.slice (some ⟨gp, 0, none⟩) 4 4) 4 (ints [2, 3, 5, 7])
  nat : wr.ownsRow (w.heap.size + 1) 2 1 (.slice A6 n6 c6) n6 (ints (limbs N))
  bel : Below w.heap.size w wr
section
variable {w wr w2 : World} {A AF A6 A7 : Option Addr} {n c K K' nF cF gp n6 c6 N n7 c7 N7 : Nat} {bs : List Int} {fs : List Fr}
theorem BfS.ch (h : BfS w wr A n c bs K AF nF cF fs gp A6 n6 c6 N) (hc : Ch (· = w.heap.size) wr w2) (hs : SrcS w2 w.heap.size A n c bs K') : BfS w w2 A n c bs K' AF nF cF fs gp A6 n6 c6 N :=
  ⟨hs, own_ch h.fr hc (fun k h1 h2 => by have := (h.fr.lt k h1).1; omega), own_ch h.pr hc (fun k h1 h2 => by have := (h.pr.lt k h1).1; omega), own_ch h.nat hc (fun k h1 h2 => by have := (h.nat.lt k h1).1; omega), below_ch h.bel hc (fun k hk => by omega) h.bel.size⟩
theorem BfS.below (h : BfS w wr A n c bs K AF nF cF fs gp A6 n6 c6 N) (hb : Below wr.heap.size wr w2) : BfS w w2 A n c bs K AF nF cF fs gp A6 n6 c6 N :=
  ⟨h.src.below hb, ownN_below h.fr hb (Nat.le_refl _), own_below h.pr hb (Nat.le_refl _), own_below h.nat hb (Nat.le_refl _), h.bel.trans (hb.mono h.bel.size)⟩
theorem BfS.put (h : BfS w wr A n c bs K AF nF cF fs gp A6 n6 c6 N) (hb : Below wr.heap.size wr w2) (ho : w2.ownsRow wr.heap.size 2 1 (.slice A7 n7 c7) n7 (ints (limbs N7))) : BfS w w2 A n c bs K AF nF cF fs gp A7 n7 c7 N7 :=
  ⟨h.src.below hb, ownN_below h.fr hb (Nat.le_refl _), own_below h.pr hb (Nat.le_refl _), own_base ho (by have := h.src.lt; omega), h.bel.trans (hb.mono h.bel.size)⟩
theorem BfS.more (h : BfS w wr A n c bs K AF nF cF fs gp A6 n6 c6 N) (hk : K ≤ K') : BfS w wr A n c bs K' AF nF cF fs gp A6 n6 c6 N := ⟨h.src.mono hk, h.fr, h.pr, h.nat, h.bel⟩
end
def TwoF (w : World) (e : Ending) (w' : World) : Prop := ∃ (fs : List Fr) (A : Option Addr) (n c : Nat) (A' : Option Addr) (n' c' N : Nat), e = .returned (.tuple #[.slice A n c, .slice A' n' c']) ∧ OkFs fs ∧ 0 < N ∧ N ≤ 1000000000000 ∧ Rd w' A (n * 2) (ints (flatF fs)) ∧ Rd w' A' n' (ints (limbs N)) ∧ Below w.heap.size w w'
theorem prime_fr : ∀ y ∈ ([2, 3, 5, 7] : List Int), 1 ≤ y ∧ y ≤ 7 := by decide
/-- The bound on the natural behind i primes and 3 - k factors of the next. -/
def bdP (i k N : Nat) : Prop := 0 < N ∧ N ≤ 1000 ^ i * 10 ^ (3 - k)
theorem bdP.start {i N k : Nat} (h : 0 < N ∧ N ≤ 1000 ^ i) : bdP i k N := ⟨h.1, Nat.le_trans h.2 (Nat.le_mul_of_pos_right _ (Nat.pow_pos (by omega)))⟩
theorem bdP.step {i k N p : Nat} (h : bdP i (k + 1) N) (hk : k + 1 ≤ 3) (h1 : 1 ≤ p) (h2 : p ≤ 7) : bdP i k (N * p) := by
  refine ⟨Nat.mul_pos h.1 h1, ?_⟩
  have e : 1000 ^ i * 10 ^ (3 - k) = 1000 ^ i * 10 ^ (3 - (k + 1)) * 10 := by rw [show 3 - k = (3 - (k + 1)) + 1 by omega, Nat.pow_succ, ← Nat.mul_assoc]
  rw [e]
  exact Nat.mul_le_mul h.2 (by omega)
theorem bdP.done {i N : Nat} (h : bdP i 0 N) : 0 < N ∧ N ≤ 1000 ^ (i + 1) := ⟨h.1, by rw [Nat.pow_succ]; exact h.2⟩
theorem pow_four {i N : Nat} (h : N ≤ 1000 ^ i) (hi : i ≤ 4) : N ≤ 1000000000000 := Nat.le_trans h (Nat.le_trans (Nat.pow_le_pow_right (by omega) hi) (by decide))
theorem bdP.le {i k N : Nat} (h : bdP i k N) (hi : i + 1 ≤ 4) : N ≤ 1000000000000 := by
  have h1 : (10 : Nat) ^ (3 - k) ≤ 10 ^ 3 := Nat.pow_le_pow_right (by omega) (by omega)
  have h2 : 1000 ^ i * 10 ^ (3 - k) ≤ 1000 ^ i * 1000 := Nat.mul_le_mul_left _ h1
  rw [← Nat.pow_succ] at h2
  exact pow_four (Nat.le_trans h.2 h2) hi
set_option maxHeartbeats 8000000 in
set_option maxRecDepth 100000 in
theorem B10Fractions_any (w : World) (A : Option Addr) (n c : Nat) (bs : List Int) (hr : Rd w A n (bytesV bs)) (hbs : ∀ b ∈ bs, 0 ≤ b ∧ b ≤ 255) (hn : n ≤ 1000000000) :
    Calls Try.prog 7 #[.slice A n c] w (TwoF w) := by
  have HBS := Lib.hid hbs; clear hbs
  go_enter Try.func7, Try.ntmps7
  go_wp2_with fail
  refine (l00From_any w A n c).mono ?_
  rintro e w1 ⟨rfl, hw1⟩
  have hb1 : Below w.heap.size w w1 := by rw [hw1]; exact below_new _ _
  have hsz : w1.heap.size = w.heap.size + 1 := by rw [hw1]; simp
  have HSZ := Lib.hid hsz
  have HS1 : Hid (SrcS w1 w.heap.size A n c bs 0) := Lib.hid ⟨⟨0, 0, Nat.le_refl _, by rw [hw1]; exact box_new _ _ _⟩, hr.below hb1 (Nat.le_refl _), fun hp b off e hq => by
    obtain ⟨b', off', e', hlt, _⟩ := hr.2 hp
    rw [e] at e'; injection e' with e'; injection e' with e1; omega, HBS.out, hn⟩
  have HB1 := Lib.hid hb1
  clear hw1 hb1 hsz
  go_wp2_with fail
  refine (l08DrawOk_s w1 w.heap.size A n c bs 0 HS1.out (by omega)).mono ?_
  rintro e w2 ⟨fs, AF, nF, cF, rfl, hok, hof, hs2, hc2⟩
  have HOK := Lib.hid hok; have HOF := Lib.hid hof; have HS2 := Lib.hid hs2
  have HB2 : Hid (Below w.heap.size w w2) := Lib.hid (below_ch HB1.out hc2 (fun k h => by omega) HB1.out.size)
  have hz2 : w.heap.size + 1 ≤ w2.heap.size := by rw [← HSZ.out]; exact hc2.size
  clear hok hof hs2 hc2
  obtain ⟨w4, hw4⟩ : ∃ w4, w4 = (w2.alloc (.cells #[.int .i64 1] 2)).alloc (.cells #[.int .i64 2, .int .i64 3, .int .i64 5, .int .i64 7] 2) := ⟨_, rfl⟩
  have HBF : Hid (BfS w w4 A n c bs 1000 AF nF cF fs (w2.heap.size + 1) (some ⟨w2.heap.size, 0, none⟩) 1 1 1) := Lib.hid (by
    rw [hw4]
    have b1 := below_new w2 (.cells #[.int .i64 1] 2)
    have b2 := below_new (w2.alloc (.cells #[.int .i64 1] 2)) (.cells #[.int .i64 2, .int .i64 3, .int .i64 5, .int .i64 7] 2)
    have b12 := b1.trans (b2.mono b1.size)
    refine ⟨HS2.out.below b12, ownN_below (ownN_base HOF.out (by rw [HSZ.out]; exact Nat.le_refl _)) b12 (Nat.le_refl _), ?_, ?_, HB2.out.trans (b12.mono HB2.out.size)⟩
    · have h := own_lit (w2.alloc (.cells #[.int .i64 1] 2)) #[.int .i64 2, .int .i64 3, .int .i64 5, .int .i64 7] 4 2 rfl (by omega)
      rw [World.size_alloc] at h
      exact own_base h (by omega)
    · have h := own_lit w2 #[.int .i64 1] 1 2 rfl (by omega)
      have e : limbs 1 = [1] := limbs_dg (x := 1) (by omega) (by omega)
      rw [e]
      exact own_base (own_below h b2 (Nat.le_refl _)) (by omega))
  have HN0 : Hid (0 < 1 ∧ 1 ≤ 1000 ^ 0) := Lib.hid (by decide)
  go_wp2_with fail
  rw [← hw4]
  clear hw4 hz2
  go_loopw [8, 6] (fun q p wr => ∃ (i N : Nat) (A6 : Option Addr) (n6 c6 : Nat), q = .int .i64 i ∧ p = .slice A6 n6 c6 ∧ i ≤ 4 ∧ Hid (0 < N ∧ N ≤ 1000 ^ i) ∧ BfS w wr A n c bs (1000 + 2 * i) AF nF cF fs (w2.heap.size + 1) A6 n6 c6 N) (fun q _ _ => 4 - (intOf q).toNat)
  case atStart => exact ⟨0, 1, _, 1, 1, rfl, rfl, by omega, HN0, HBF.out⟩
  case round =>
    obtain ⟨i, N, A6, n6, c6, rfl, rfl, hi, HN, hbf⟩ := hrel
    have HF := Lib.hid hbf
    clear hbf HBF HN0
    by_cases hlt : i < 4
    · have hlt' : (i : Int) < 4 := by omega
      go_wp2_with fail
      refine (pick_s wr w.heap.size A n c bs (1000 + 2 * i) HF.out.src (by omega) 4 (by omega) 3 (by omega) (by omega)).mono ?_
      rintro e w5 ⟨x, rfl, hx0, hx1, hs5, hc5⟩
      obtain ⟨M, rfl⟩ := Int.eq_ofNat_of_zero_le hx0
      have HF5 : Hid (BfS w w5 A n c bs (1000 + 2 * i + 2) AF nF cF fs (w2.heap.size + 1) A6 n6 c6 N) := Lib.hid (HF.out.ch hc5 hs5)
      have hM : M ≤ 3 := by omega
      clear hx0 hx1 hs5 hc5 HF
      go_wp2_with fail
      go_loopw [9, 6] (fun q p wr => ∃ (k N : Nat) (A6 : Option Addr) (n6 c6 : Nat), q = .int .i64 k ∧ p = .slice A6 n6 c6 ∧ k ≤ 3 ∧ Hid (bdP i k N) ∧ BfS w wr A n c bs (1000 + 2 * i + 2) AF nF cF fs (w2.heap.size + 1) A6 n6 c6 N) (fun q _ _ => (intOf q).toNat)
      case atStart => exact ⟨M, N, A6, n6, c6, rfl, rfl, hM, Lib.hid (bdP.start HN.out), HF5.out⟩
      case round =>
        obtain ⟨k, N, A6, n6, c6, rfl, rfl, hk, HN, hbf⟩ := hrel
        have HF := Lib.hid hbf
        clear hbf HF5
        by_cases hk0 : 0 < k
        · have hk0' : (0 : Int) < (k : Int) := by omega
          obtain ⟨p, hp⟩ := get_some (xs := ([2, 3, 5, 7] : List Int)) (k := i) (by simp; omega)
          have hp2 := prime_fr p (List.mem_of_getElem? hp)
          obtain ⟨q1, hq1⟩ := ownN_at HF.out.pr (ints_get hp)
          have HRP := Lib.hid (rd_digit wr (d := p) (by omega) (by omega) 2)
          have HRN := Lib.hid ((own_rd HF.out.nat).alloc (.cells #[.int .i64 p] 2))
          have hn6 : n6 ≤ 3 := own_small HF.out.nat (HN.out.le (by omega))
          clear hp hq1
          go_wp2_with fail
          refine (l02Mul_limbs _ _ _ _ N HRN.out (by omega) _ _ _ p.toNat HRP.out (by omega)).mono ?_
          rintro e w6 ⟨A7, n7, c7, rfl, ho7, hb7⟩
          have HF7 := Lib.hid (HF.out.put (below_al hb7) (own_base ho7 (by simp)))
          clear ho7 hb7 HRP HRN
          go_wp2_with fail
          go_roundw
          case rel => exact ⟨k - 1, N * p.toNat, A7, n7, c7, by congr 1; omega, rfl, by omega, Lib.hid (by
            have h := HN.out
            rw [show k = (k - 1) + 1 by omega] at h
            exact h.step (by omega) (by omega) (by omega)), HF7.out⟩
          case measure => simp only [intOf]; omega
        · obtain rfl : k = 0 := by omega
          go_wp2_with fail
          go_roundw
          case rel => exact ⟨i + 1, N, A6, n6, c6, by go_num, rfl, by omega, Lib.hid HN.out.done, HF.out.more (by omega)⟩
          case measure => simp only [intOf]; omega
    · have hi4 : ¬ (i : Int) < 4 := by omega
      go_wp2_with fail
      go_ret2
      exact ⟨fs, AF, nF, cF, A6, n6, c6, N, rfl, HOK.out, HN.out.1, pow_four HN.out.2 hi, ownN_rd HF.out.fr, own_rd HF.out.nat, HF.out.bel⟩
set_option maxHeartbeats 1000000 in
theorem b10At_any (w : World) (A : Option Addr) (n c : Nat) (bs : List Int) (hr : Rd w A n (bytesV bs)) (hbs : ∀ b ∈ bs, 0 ≤ b ∧ b ≤ 255) (m : Nat) (h1 : 1 < m) (h2 : m ≤ 1000) : Calls Try.prog 8 #[.slice A n c, .int .i64 0, .int .i64 (m : Int)] w (fun e w' => ∃ k : Nat, e = .returned (.int .i64 k) ∧ k < m ∧ w = w') := by
  have HBS := Lib.hid hbs; clear hbs
  have hm1 : ¬ (m : Int) ≤ 1 := by omega
  have hmz : ¬ m = 0 := by omega
  by_cases hn : 0 < n
  · have HL : Hid (bs.length = n) := Lib.hid (by simpa using hr.1)
    obtain ⟨b, hb⟩ := get_some (xs := bs) (k := 0) (by rw [HL.out]; omega)
    obtain ⟨bb, off, rfl, hbl, hcx⟩ := hr.at_ (k := 0) (u := .int .u8 b) (by simp [hb])
    rw [Nat.add_zero] at hcx
    have hb2 := HBS.out b (List.mem_of_getElem? hb)
    have hm3 := Int.emod_nonneg b (show (m : Int) ≠ 0 by omega)
    have hm4 := Int.emod_lt_of_pos b (show 0 < (m : Int) by omega)
    have hn' : (0 : Int) < (n : Int) := by omega
    clear hb
    go_enter Try.func8, Try.ntmps8
    go_wp2_with fail
    go_ret
    refine ⟨(b % (m : Int)).toNat, ?_, by omega, rfl⟩
    rw [Int.toNat_of_nonneg hm3]; rfl
  · obtain rfl : n = 0 := by omega
    have hm3 := Int.emod_nonneg 11 (show (m : Int) ≠ 0 by omega)
    have hm4 := Int.emod_lt_of_pos 11 (show 0 < (m : Int) by omega)
    go_enter Try.func8, Try.ntmps8
    go_wp2_with fail
    go_ret
    refine ⟨(11 % (m : Int)).toNat, ?_, by omega, rfl⟩
    rw [Int.toNat_of_nonneg hm3]; rfl
end Go.Proofs.Ytfjlbfnjnkaooaa
