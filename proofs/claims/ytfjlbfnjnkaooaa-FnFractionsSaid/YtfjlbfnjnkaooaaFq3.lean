/- Programs of fractions (program): one step. -/
import Derived.Test.YtfjlbfnjnkaooaaFq2
import Derived.Test.YtfjlbfnjnkaooaaDv
import Derived.Test.YtfjlbfnjnkaooaaAr1
import Derived.Deep.DrawnRows
namespace Go.Proofs.Ytfjlbfnjnkaooaa
open Go.RowKit Limb
set_option linter.unusedSimpArgs false
set_option linter.unusedVariables false
attribute [local go_sem ↓] Go.wp_at_zero Go.wp_at_succ
def kOf : Option (Nat × Nat) → Int
  | none => -1
  | some p => (p.2 : Int)
def nOf (N : Nat) : Option (Nat × Nat) → Nat
  | none => N
  | some p => p.1
/-- What a step leaves. -/
def StpP (w : World) (fs : List Fr) (N : Nat) (e : Ending) (w' : World) : Prop := ∃ (A : Option Addr) (n c : Nat), e = .returned (.tuple #[.slice A n c, .int .i64 (kOf (stepQ fs N 0))]) ∧ Rd w' A n (ints (limbs (nOf N (stepQ fs N 0)))) ∧ Below w.heap.size w w'
theorem rd_u (w : World) {u : Nat} (h1 : 1 ≤ u) (h2 : u ≤ 999) (T : Nat) : Rd (w.alloc (.cells #[.int .i64 (u : Int)] T)) (some ⟨w.heap.size, 0, none⟩) 1 (ints (limbs u)) := by
  have h := rd_digit w (d := (u : Int)) (by omega) (by omega) T
  rwa [Int.toNat_natCast] at h
theorem len_u {u : Nat} (h1 : 1 ≤ u) (h2 : u ≤ 999) : (limbs u).length = 1 := by
  have h := limbs_dg (x := (u : Int)) (by omega) (by omega)
  rw [Int.toNat_natCast] at h
  rw [h]; rfl
set_option maxHeartbeats 8000000 in
set_option maxRecDepth 100000 in
theorem stepFractions_any (w : World) (A : Option Addr) (n c : Nat) (fs : List Fr) (hr : Rd w A (n * 2) (ints (flatF fs))) (h : OkFs fs) (A' : Option Addr) (n' c' N : Nat) (hr' : Rd w A' n' (ints (limbs N))) (hn' : n' ≤ 1000) :
    Calls Try.prog 38 #[.slice A n c, .slice A' n' c'] w (StpP w fs N) := by
  have HL : Hid (fs.length = n) := Lib.hid (by have := hr.1; simp [flatF_len] at this; omega)
  have HLN : Hid ((limbs N).length = n') := Lib.hid (by simpa using hr'.1)
  have hn1 : n ≤ 100 := by have := h.len; have := HL.out; omega
  have HOK := Lib.hid h
  have HR := Lib.hid hr; have HR' := Lib.hid hr'
  clear h hr hr'
  go_enter Try.func38, Try.ntmps38
  go_wp2_with fail
  go_loopw [12] (fun q wr => ∃ k : Nat, k ≤ n ∧ q = .int .i64 k ∧ Hid (stepQ (fs.drop k) N k = stepQ fs N 0) ∧ Below w.heap.size w wr) (fun q _ => n - (intOf q).toNat)
  case atStart => exact ⟨0, Nat.zero_le _, rfl, Lib.hid rfl, Below.refl _ _⟩
  case round =>
    obtain ⟨k, hk, rfl, HST, hb⟩ := hrel
    have HB := Lib.hid hb
    clear hb
    by_cases hlt : k < n
    · obtain ⟨x, hx⟩ := get_some (xs := fs) (k := k) (by rw [HL.out]; omega)
      obtain ⟨b, off, rfl, hbs, q0, q1⟩ := rdF HR.out hx
      replace q0 := (HB.out.cell (p := ⟨b, off + k * 2, none⟩) hbs).trans q0
      replace q1 := (HB.out.cell (p := ⟨b, off + k * 2 + 1, none⟩) hbs).trans q1
      have hokx := HOK.out.all x (List.mem_of_getElem? hx)
      have HX := Lib.hid (stepQ_drop (N := N) hx)
      obtain ⟨u, d⟩ := x
      obtain ⟨h1, h2, h3, h4⟩ := hokx
      simp only at q0 q1 h1 h2 h3 h4
      obtain ⟨w1, hw1⟩ : ∃ w1, w1 = wr.alloc (.cells #[.int .i64 (u : Int), .int .i64 (d : Int)] 39) := ⟨_, rfl⟩
      have HX7 : Hid (w1.heap[wr.heap.size]? = some (.cells #[.int .i64 (u : Int), .int .i64 (d : Int)] 39 (0, 0))) := Lib.hid (by rw [hw1]; exact box_new wr _ _)
      have HB1 : Hid (Below wr.heap.size wr w1) := Lib.hid (by rw [hw1]; exact below_new _ _)
      have HBB := Lib.hid (HB.out.trans (HB1.out.mono HB.out.size))
      clear hx
      go_upto_region 4 with fail
      rw [← hw1]
      clear hw1 q0 q1
      as_aux_lemma =>
      have y0 := blk_cell HX7.out 0 rfl
      have y1 := blk_cell HX7.out 1 rfl
      have y0' := blk_cell (blk_alloc HX7.out (.cells #[.int .i64 (u : Int)] 2)) 0 rfl
      have y1' := blk_cell (blk_alloc HX7.out (.cells #[.int .i64 (u : Int)] 2)) 1 rfl
      have HRU := Lib.hid (rd_u w1 h1 h2 2)
      have HRN := Lib.hid ((HR'.out.below HBB.out (Nat.le_refl _)).alloc (.cells #[.int .i64 (u : Int)] 2))
      have HN' : Hid (n' ≤ 1000000) := Lib.hid (by omega)
      have HLU := Lib.hid (len_u h1 h2)
      have HD : Hid ((1 : Int) ≤ (d : Int) ∧ (d : Int) ≤ 1000000) := Lib.hid (by omega)
      (first | (go_region_law (first
        | (have hq := HO3.out; clear hq
           go_simp; go_at_call 70; refine (divideSmall_any _ _ _ _ (N * u) (by have h := own_rd HO3.out; exact h) (by exact hn3) (d : Int) (by exact HD.out.1) (by exact HD.out.2)).mono ?_
           rintro e w4 ⟨A4, n4, c4, he, ho4, hb4⟩
           obtain ⟨z, hz⟩ : ∃ z : Int, z = ((N * u % (d : Int).toNat : Nat) : Int) := ⟨_, rfl⟩
           rw [← hz] at he
           subst he
           have HZ := Lib.hid hz
           clear hz
           have HO4 := Lib.hid ho4
           have HB4 : Hid (Below w1.heap.size w1 w4) := Lib.hid (HB3.out.trans (by have h := hb4; exact ((by first | exact below_undrew h | exact h : Below w3.heap.size w3 w4).mono HB3.out.size)))
           clear ho4 hb4)
        | (go_simp; go_at_call 41; refine (multiply_any _ _ _ _ N (by have h := HRN.out; exact h) (by exact HN'.out) _ _ _ u (by have h := HRU.out; exact h) (by decide)).mono ?_
           rintro e w3 ⟨A3, n3, c3, rfl, ho3, hb3⟩
           have HO3 := Lib.hid ho3
           have HB3 : Hid (Below w1.heap.size w1 w3) := Lib.hid (below_al (by have h := hb3; exact (by first | exact below_undrew h | exact h)))
           have y1'' := blk_cell (blk_bel HX7.out HB3.out) 1 rfl
           have hn3 : n3 ≤ 1000000 := by have h1 := own_limb_len ho3; have h2 := limbs_len_mul N u; have h3 := HLU.out; have h4 := HLN.out; have h5 := HN'.out; omega
           clear ho3 hb3))) | fail)
      all_goals
        as_aux_lemma =>
        have HBC := Lib.hid (HBB.out.trans (HB4.out.mono HBB.out.size))
        have HR4 := own_rd HO4.out
        rw [Int.toNat_natCast] at HR4
        have HR4' := Lib.hid HR4
        have hz0 := HZ.out
        rw [Int.toNat_natCast] at hz0
        clear HR4 y0 y1 y0' y1' y1'' HRU HRN HO3 HB3 HO4 HB4
        by_cases hm : N * u % d = 0
        · have HM := Lib.hid hm
          have hz : z = 0 := by rw [hz0, hm]; rfl
          clear hm hz0
          subst hz
          go_wp2_with fail
          go_ret2
          have hs := HST.out
          rw [HX.out, if_pos HM.out] at hs
          exact ⟨A4, n4, c4, by rw [← hs]; rfl, by rw [← hs]; exact HR4'.out, HBC.out⟩
        · have HM := Lib.hid hm
          have hz : ¬ z = 0 := by
            intro h
            rw [hz0] at h
            exact hm (by omega)
          clear hm hz0
          go_wp2_with fail
          go_roundw
          case rel => exact ⟨k + 1, by omega, by go_num, Lib.hid (by rw [← HST.out, HX.out, if_neg HM.out]), HBC.out⟩
          case measure => simp only [intOf]; omega
    · obtain rfl : k = n := by omega
      go_wp2_with fail
      go_ret2
      have hs := HST.out
      rw [List.drop_of_length_le (by rw [HL.out]; exact Nat.le_refl _), stepQ] at hs
      exact ⟨A', n', c', by rw [← hs]; rfl, by rw [← hs]; exact HR'.out.below HB.out (Nat.le_refl _), HB.out⟩
end Go.Proofs.Ytfjlbfnjnkaooaa
