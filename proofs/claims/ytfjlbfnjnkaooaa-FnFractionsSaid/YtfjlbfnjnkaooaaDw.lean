/- Long division of naturals (program): divide. -/
import Derived.Test.YtfjlbfnjnkaooaaDv
namespace Go.Proofs.Ytfjlbfnjnkaooaa
open Go.RowKit Limb
set_option linter.unusedVariables false
set_option linter.unusedSimpArgs false
attribute [local go_sem ↓] Go.wp_at_zero Go.wp_at_succ
theorem cmpN_lt (a b : Nat) : cmpN a b < 0 ↔ a < b := by
  have h1 := cmpN_le a b
  have h2 := cmpN_le b a
  unfold cmpN at *
  split at h1 <;> split at h2 <;> omega

set_option maxHeartbeats 2000000 in
theorem divide_one (w : World) (A : Option Addr) (n c X : Nat) (hr : Rd w A n (ints (limbs X))) (hn : n ≤ 1000) (A' : Option Addr) (c' Y : Nat) (hr' : Rd w A' 1 (ints (limbs Y))) :
    Calls Try.prog 46 #[.slice A n c, .slice A' 1 c'] w (DivP w (X / Y) (X % Y)) := by
  obtain ⟨b, hb, hb1, hb2, hbY⟩ := limbs_one_len (B := Y) (by simpa using hr'.1)
  rw [hb] at hr'
  obtain ⟨bb, off, rfl, hlt, hcx⟩ := hr'.at_ (k := 0) (u := .int .i64 b) (by rfl)
  rw [Nat.add_zero] at hcx
  have HB : Hid (Below w.heap.size w (w.alloc (.cells #[.slice (some ⟨bb, off, none⟩) 1 c'] 25))) := Lib.hid (below_new w _)
  have hcx1 := ((HB.out.cell (p := ⟨bb, off, none⟩) hlt)).trans hcx
  have HR := Lib.hid (hr.alloc (.cells #[.slice (some ⟨bb, off, none⟩) 1 c'] 25))
  have HBY := Lib.hid hbY
  clear hb hbY hr hr'
  go_enter Try.func46, Try.ntmps46
  go_wp2_with fail
  refine (divideSmall_any _ _ _ _ X HR.out (by omega) b (by omega) (by omega)).mono ?_
  rintro e w1 ⟨A1, n1, c1, rfl, ho1, hb1'⟩
  have HO1 := Lib.hid ho1; have HB1 := Lib.hid (HB.out.trans (hb1'.mono HB.out.size))
  have hm : X % b.toNat < b.toNat := Nat.mod_lt _ (by omega)
  clear ho1 hb1'
  obtain ⟨m, hm0⟩ : ∃ m : Int, m = ((X % b.toNat : Nat) : Int) := ⟨_, rfl⟩
  have HM := Lib.hid hm0
  have hm1 : 0 ≤ m ∧ m ≤ 1000000 := by omega
  rw [← hm0]
  clear hm0 hm
  go_wp2_with fail
  refine (naturalOf_any w1 m hm1.1 (by omega)).mono ?_
  rintro e w2 ⟨A2, n2, c2, rfl, ho2, hb2'⟩
  go_wp2_with fail
  go_ret2
  rw [HM.out, Int.toNat_natCast, HBY.out] at ho2
  have ho1 := HO1.out
  rw [HBY.out] at ho1
  exact ⟨A1, n1, c1, A2, n2, c2, rfl, own_base (own_below ho1 hb2' (Nat.le_refl _)) HB.out.size, own_base ho2 HB1.out.size, HB1.out.trans (hb2'.mono HB1.out.size)⟩

set_option maxHeartbeats 16000000 in
set_option maxRecDepth 100000 in
theorem divide_long (w : World) (A : Option Addr) (n c X : Nat) (hr : Rd w A n (ints (limbs X))) (hn : n ≤ 1000) (A' : Option Addr) (n' c' Y : Nat) (hr' : Rd w A' n' (ints (limbs Y))) (hn' : n' ≤ 1000) (hY : 0 < Y) (h1 : n' ≠ 1) :
    Calls Try.prog 46 #[.slice A n c, .slice A' n' c'] w (DivP w (X / Y) (X % Y)) := by
  have HL : Hid ((limbs X).length = n) := Lib.hid (by simpa using hr.1)
  have HLY : Hid ((limbs Y).length = n') := Lib.hid (by simpa using hr'.1)
  have HR0 : Hid (DvRel X Y n (List.replicate n 0) 0) := Lib.hid (by rw [← HL.out]; exact DvRel.start hY)
  have hne : ¬ (n' : Int) = 1 := by omega
  have HR := Lib.hid hr; have HR' := Lib.hid hr'
  clear hr hr'
  go_enter Try.func46, Try.ntmps46
  go_wp2_with (at_make; go_must (refine wpList_mk Try.eltI rfl _ _ rfl _ _ _ n (by rfl) (by rfl) (by omega) (by omega) (by omega) ?_); rintro w1 hown1 hb1 hs1)
  rw [show List.replicate n (Value.int .i64 0) = ints (List.replicate n 0) by simp only [ints, List.map_replicate]] at hown1
  have hsz : (w.alloc (.cells #[.slice A' n' c'] 25)).heap.size = w.heap.size + 1 := by simp
  rw [hsz] at hown1 hs1
  obtain ⟨w3, hw3⟩ : ∃ w3, w3 = (w1.alloc (.cells #[] 2)).alloc (.cells #[.slice (some ⟨w1.heap.size, 0, none⟩) 0 0] 25) := ⟨_, rfl⟩
  obtain ⟨G, hG⟩ : ∃ G, G = w1.heap.size + 1 := ⟨_, rfl⟩
  have HS3 : Hid (DvS w w3 A' n' c' G (some ⟨w1.heap.size, 0, none⟩) 0 0 0 n (List.replicate n 0)) := Lib.hid (by
    rw [hw3, hG]
    have hb0 : Below w.heap.size w w1 := (below_new _ _).trans (hb1.mono (by omega))
    refine ⟨blk_alloc (blk_alloc (blk_below (heap_alloc_new w (.cells #[.slice A' n' c'] 25)) hb1 (by omega)) _) _, ?_, ((own_base hown1 (base' := w.heap.size) (by omega)).alloc _).alloc _, ?_, (hb0.alloc hb0.size _).alloc (by simp; omega) _, by omega⟩
    · have := heap_alloc_new (w1.alloc (.cells #[] 2)) (.cells #[.slice (some ⟨w1.heap.size, 0, none⟩) 0 0] 25)
      simpa using this
    · rw [limbs_zero]
      exact (own_base (own_lit w1 #[] 0 2 rfl (by omega)) (by omega)).alloc _)
  rw [← hw3]
  rw [← hG]
  have hG2 : w.heap.size + 2 ≤ G := by omega
  clear hw3 hG hown1 hb1 hsz hs1
  go_loopw [10] (fun i wr => ∃ (j R : Nat) (out : List Int) (AR : Option Addr) (L cR : Nat), i = .int .i64 ((j : Int) - 1) ∧ j ≤ n ∧ Hid (DvRel X Y j out R) ∧ DvS w wr A' n' c' G AR L cR R n out) (fun i _ => (intOf i + 1).toNat)
  case atStart => exact ⟨n, 0, _, _, 0, 0, rfl, Nat.le_refl _, HR0, HS3.out⟩
  case round =>
    obtain ⟨j, R, out, AR, L, cR, rfl, hj, HREL, hs⟩ := hrel
    clear HS3 HR0
    have HS := Lib.hid hs
    have q9 := blk_cell hs.g9 0 rfl
    have qb := blk_cell hs.bx 0 rfl
    have hG3 : G < wr.heap.size := blk_lt hs.g9
    have HLL : Hid ((limbs R).length = L) := Lib.hid (own_limb_len hs.rest)
    have hL : L ≤ 1000 := by have h := limbs_len_mono (Nat.le_of_lt HREL.out.lt); rw [HLL.out, HLY.out] at h; omega
    clear hs
    rcases Nat.eq_zero_or_pos j with h0 | h0
    · subst h0
      go_wp2_with fail
      go_region_held3 (fun w' => w'.cell? ⟨G, 0, none⟩ = some (.slice AR L cR)) (assumption) (first | (go_at_call 73; refine (trimmed_any _ w.heap.size _ n n out (by have h := HS.out.own; exact h) (by omega)).mono ?_; rintro e w2 ⟨rfl, rfl⟩))
      go_wp2_with fail
      go_ret2
      have ho := own_trim HS.out.own
      obtain ⟨h1, h2⟩ := HREL.out.done
      have hrest := HS.out.rest
      have hbel := HS.out.bel
      rw [h1] at ho
      rw [h2] at hrest
      exact ⟨_, _, n, AR, L, cR, by rw [h1]; rfl, ho, own_base hrest (by omega), ⟨hbel.os, hbel.tape, hbel.output, hbel.size, hbel.block⟩⟩
    · obtain ⟨k, rfl⟩ : ∃ k, j = k + 1 := ⟨j - 1, by omega⟩
      have ek : (((k + 1 : Nat) : Int) - 1) = (k : Int) := by omega
      rw [ek]
      clear ek
      have hkn : k < n := by omega
      obtain ⟨x, hx⟩ := get_some (xs := limbs X) (k := k) (by rw [HL.out]; omega)
      obtain ⟨hx0, hx1⟩ := ok_get (ok_limbs X) hx
      have HX := Lib.hid hx
      obtain ⟨bb, off, rfl, hbk, hcx⟩ := HR.out.at_ (ints_get hx)
      have hcx1 := (HS.out.bel.cell (p := ⟨bb, off + k, none⟩) hbk).trans hcx
      have q9' := blk_cell (blk_alloc HS.out.g9 (.cells #[.int .i64 x] 2)) 0 rfl
      have HPUSH := Lib.hid (dv_push (R := R) hx0 hx1)
      obtain ⟨R1, hR1⟩ : ∃ R1, R1 = R * 1000000 + x.toNat := ⟨_, rfl⟩
      have HR1 := Lib.hid hR1
      have HOL : Hid ((wr.alloc (.cells #[.int .i64 x] 2)).ownsRow wr.heap.size 2 1 (.slice (some ⟨wr.heap.size, 0, none⟩) 1 1) 1 [.int .i64 x]) := Lib.hid (own_lit wr #[.int .i64 x] 1 2 rfl (by omega))
      have HRST := Lib.hid ((own_rd HS.out.rest).alloc (.cells #[.int .i64 x] 2))
      have HSZ : Hid (wr.heap.size ≤ (wr.alloc (.cells #[.int .i64 x] 2)).heap.size) := Lib.hid (by simp)
      clear hx hcx hR1
      go_wp2_with fail
      (first | (go_region_law (first
        | (have hq := HO6.out; clear hq
           go_simp; go_at_call 73; refine (trimmed_any _ wr.heap.size _ _ _ (x :: limbs R) (by exact HO6.out) (by omega)).mono ?_; rintro e w7 ⟨rfl, rfl⟩)
        | (refine step_appB Try.eltI (by rfl) _ _ (by rfl) _ wr.heap.size _ AR 1 1 L cR [.int .i64 x] (ints (limbs R)) (by rfl) (by have h := HOL.out; exact h) (by rfl) (by have h := HRST.out; exact h) ints_one (by have h := HSZ.out; exact h) (by omega) ?_
           intro A6 c6 w6 ho6 hb6
           have HO6 : Hid (w6.ownsRow wr.heap.size 2 1 (.slice A6 (1 + L) c6) (1 + L) (ints (x :: limbs R))) := Lib.hid ho6
           have HB6 : Hid (Below wr.heap.size wr w6) := Lib.hid ((below_new wr (.cells #[.int .i64 x] 2)).trans (by have h := hb6; exact (by first | exact below_undrew h | exact h)))
           have z9 := blk_cell (blk_bel HS.out.g9 HB6.out) 0 rfl
           have f9 := blk_free (blk_bel HS.out.g9 HB6.out) 0
           clear ho6 hb6))) | fail)
      all_goals
        as_aux_lemma =>
        have ht := own_trim HO6.out
        rw [HPUSH.out, ← HR1.out] at ht
        have e1 : (trim (x :: limbs R)).length = (limbs R1).length := by rw [HPUSH.out, HR1.out]
        obtain ⟨L7, hL7⟩ : ∃ L7, L7 = (limbs R1).length := ⟨_, rfl⟩
        rw [e1, ← hL7]
        rw [← hL7] at ht
        obtain ⟨w7, hw7⟩ : ∃ w7, w7 = w6.setCell ⟨G, 0, none⟩ (.slice A6 L7 c6) := ⟨_, rfl⟩
        have HS7 : Hid (DvS w w7 A' n' c' G A6 L7 c6 R1 n out) := Lib.hid (by rw [hw7]; exact HS.out.put HB6.out (own_base ht (by omega)))
        rw [← hw7]
        have hL7b : L7 ≤ 1001 := by
          have h1 := HPUSH.out
          rw [← HR1.out] at h1
          rw [hL7, ← h1]
          have h2 := trim_le (x :: limbs R)
          have h3 := HLL.out
          simp at h2
          omega
        have HTOP := Lib.hid (mq_top HREL.out.lt hx0 hx1)
        rw [← HR1.out] at HTOP
        have HX01 := Lib.hid (And.intro hx0 hx1)
        clear hw7 ht e1 hL7 z9 f9 HO6 HB6 HPUSH HOL HRST HSZ q9 q9' qb hcx1 hx0 hx1
        as_aux_lemma =>
        have q9 := blk_cell HS7.out.g9 0 rfl
        have qb := blk_cell HS7.out.bx 0 rfl
        go_wp2_with fail
        refine (compareNaturals_any _ _ _ _ R1 (own_rd HS7.out.rest) (by omega) _ _ _ Y (HR'.out.below HS7.out.bel (Nat.le_refl _)) (by omega)).mono ?_
        rintro e w8 ⟨rfl, hb8⟩
        have HS8 := Lib.hid (HS7.out.below hb8)
        clear HS7 HS q9 qb hb8
        by_cases hlt : R1 < Y
        · have hcv := (cmpN_lt R1 Y).2 hlt
          have HLT := Lib.hid hlt
          generalize cmpN R1 Y = cv at hcv
          clear hlt
          as_aux_lemma =>
          go_wp2_with fail
          go_roundw
          case rel => exact ⟨k, R1, out, A6, L7, c6, rfl, by omega, Lib.hid (by have h := HREL.out.low HX.out HX01.out.1 (by rw [← HR1.out]; exact HLT.out); rwa [← HR1.out] at h), HS8.out⟩
          case measure => simp only [intOf]; omega
        · have hcv : ¬ cmpN R1 Y < 0 := fun h => hlt ((cmpN_lt R1 Y).1 h)
          have HLT := Lib.hid hlt
          generalize cmpN R1 Y = cv at hcv
          clear hlt
          as_aux_lemma =>
          have q9 := blk_cell HS8.out.g9 0 rfl
          have qb := blk_cell HS8.out.bx 0 rfl
          have HZ0 := Lib.hid (mq_zero Y R1)
          have HLN : Hid (limbs Y = limbs Y) := Lib.hid rfl
          have hb8 := blk_lt HS8.out.bx
          have hg8 := blk_lt HS8.out.g9
          have HCL : Hid (∀ (w' : World) (d : Int), Below w8.heap.size w8 w' → 1 ≤ d → d < 1000000 → Calls Try.prog 78 #[.int .i64 d, .pointer (some ⟨w.heap.size, 0, none⟩), .pointer (some ⟨G, 0, none⟩)] w' (RetV w' (.bool (mqB Y R1 d)))) :=
            Lib.hid (fun w' d hb' h0 h1 => divide1_any w' w.heap.size G A' n' c' A6 L7 c6 Y R1 d ((hb'.cell (p := ⟨w.heap.size, 0, none⟩) hb8).trans qb) (HR'.out.below (HS8.out.bel.trans (hb'.mono HS8.out.bel.size)) (Nat.le_refl _)) hn' ((hb'.cell (p := ⟨G, 0, none⟩) hg8).trans q9) ((own_rd HS8.out.rest).below hb' (Nat.le_refl _)) (by omega) h0 h1)
          obtain ⟨y, hy⟩ := get_some (xs := out) (k := k) (by have h1 := HREL.out.len; have h2 := HL.out; omega)
          obtain ⟨g, hg, hgb, hgs, hc2, hc3⟩ := own_get HS8.out.own (ints_get hy)
          obtain rfl : w.heap.size + 1 = g := by simpa using hg
          clear hy hg hgb
          go_wp2_with (go_at_call 77; refine (greatest_dv _ (mqB Y R1) HZ0.out HTOP.out _ _ (fun w' d hb' h0 h1 => HCL.out w' d (by first | exact below_undrew hb' | exact hb') h0 h1)).mono ?_; rintro e w9 ⟨d, rfl, hd0, hd1, hp1, hp2, hb9⟩; (try replace hb9 := below_undrew hb9); have hc2 := (hb9.cell (p := ⟨w.heap.size + 1, k, none⟩) hgs).trans hc2; have hc3 := (hb9.frozen (p := ⟨w.heap.size + 1, k, none⟩) hgs).trans hc3)
          have hd1' : 1 ≤ d := by
            rcases Int.lt_or_le 0 d with h | h
            · omega
            · obtain rfl : d = 0 := by omega
              have h2 := mqB_false.1 hp2
              have e1 : ((0 : Int) + 1).toNat = 1 := rfl
              rw [e1, Nat.mul_one] at h2
              exact absurd (Nat.le_of_not_lt HLT.out) h2
          have HP1 := Lib.hid (mqB_true.1 hp1); have HP2 := Lib.hid (mqB_false.1 hp2)
          have hk1 : (k : Int) ≤ (k : Int) := by omega
          obtain ⟨w10, hw10⟩ : ∃ w10, w10 = w9.setCell ⟨w.heap.size + 1, k, none⟩ (.int .i64 d) := ⟨_, rfl⟩
          have HS10 : Hid (DvS w w10 A' n' c' G A6 L7 c6 R1 n (out.set k d)) := Lib.hid (by rw [hw10]; exact (HS8.out.below hb9).digit k d)
          go_wp2_with fail
          rw [← hw10]
          have HDG : Hid ((out.set k d)[k]? = some d) := Lib.hid (by rw [List.getElem?_set_self (by have h1 := HREL.out.len; have h2 := HL.out; omega)])
          clear hw10 hb9 hp1 hp2 hc2 hc3 HCL HZ0 q9 qb hgs hk1 HS8 HTOP hb8 hg8
          as_aux_lemma =>
          obtain ⟨g, hg, hgb, hgs, qo, _⟩ := own_get HS10.out.own (ints_get HDG.out)
          obtain rfl : w.heap.size + 1 = g := by simpa using hg
          have q9 := blk_cell HS10.out.g9 0 rfl
          have qb := blk_cell HS10.out.bx 0 rfl
          have q9' := blk_cell (blk_alloc HS10.out.g9 (.cells #[.int .i64 d] 2)) 0 rfl
          have qb' := blk_cell (blk_alloc HS10.out.bx (.cells #[.int .i64 d] 2)) 0 rfl
          have HRD := Lib.hid (rd_digit w10 hd1' hd1 2)
          have HRY := Lib.hid ((HR'.out.below HS10.out.bel (Nat.le_refl _)).alloc (.cells #[.int .i64 d] 2))
          have HDL : Hid ((limbs d.toNat).length = 1) := Lib.hid (by rw [limbs_dg hd1' hd1]; rfl)
          have HGS : Hid (w.heap.size + 2 ≤ w10.heap.size) := Lib.hid (by have h1 := blk_lt HS10.out.g9; omega)
          have HL7 : Hid (L7 ≤ 1000000) := Lib.hid (by omega)
          have HNY : Hid (n' ≤ 1000000) := Lib.hid (by omega)
          clear hg hgb hgs
          (first | (go_region_law (first
            | (have hq := HO11.out; clear hq
               go_simp; go_at_call 45; refine (subtract_any _ _ _ _ R1 (by have h := (own_rd HS10.out.rest).below HB11.out (Nat.le_refl _); exact h) (by exact HL7.out) _ _ _ (Y * d.toNat) (by have h := own_rd HO11.out; exact h) (by exact HP1.out)).mono ?_
               rintro e w12 ⟨A12, L12, c12, rfl, ho12, hb12⟩
               have HO12 : Hid (w12.ownsRow (w.heap.size + 2) 2 1 (.slice A12 L12 c12) L12 (ints (limbs (R1 - Y * d.toNat)))) := Lib.hid (own_base ho12 (by have h1 := HGS.out; have h2 := HB11.out.size; exact Nat.le_trans h1 h2))
               have HB12 : Hid (Below w10.heap.size w10 w12) := Lib.hid (HB11.out.trans (by have h := hb12; exact ((by first | exact below_undrew h | exact h : Below w11.heap.size w11 w12).mono HB11.out.size)))
               have z9 := blk_cell (blk_bel HS10.out.g9 HB12.out) 0 rfl
               have f9 := blk_free (blk_bel HS10.out.g9 HB12.out) 0
               clear ho12 hb12)
            | (go_simp; go_at_call 41; refine (multiply_any _ _ _ _ Y (by have h := HRY.out; exact h) (by exact HNY.out) _ _ _ d.toNat (by have h := HRD.out; exact h) (by decide)).mono ?_
               rintro e w11 ⟨A11, n11, c11, rfl, ho11, hb11⟩
               have HO11 := Lib.hid ho11
               have HB11 : Hid (Below w10.heap.size w10 w11) := Lib.hid (below_al (by have h := hb11; exact (by first | exact below_undrew h | exact h)))
               have q9'' := blk_cell (blk_bel HS10.out.g9 HB11.out) 0 rfl
               clear ho11 hb11))) | fail)
          all_goals
            as_aux_lemma =>
            have HS13 := Lib.hid (HS10.out.put HB12.out HO12.out)
            go_wp2_with fail
            go_roundw
            case rel => exact ⟨k, R1 - Y * d.toNat, out.set k d, A12, L12, c12, rfl, by omega, Lib.hid (by have h := HREL.out.high HX.out HX01.out.1 hd0 hd1 (by rw [← HR1.out]; exact HP1.out) (by rw [← HR1.out]; exact HP2.out); rwa [← HR1.out] at h), HS13.out⟩
            case measure => simp only [intOf]; omega
end Go.Proofs.Ytfjlbfnjnkaooaa
