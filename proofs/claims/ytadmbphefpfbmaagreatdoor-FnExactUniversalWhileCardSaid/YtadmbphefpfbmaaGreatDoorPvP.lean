/- A program with one variable (reference): places, packed and moved expressions. Printed by mk_pvp.py. -/
import Derived.Test.YtadmbphefpfbmaaGreatDoorPvS
namespace Go.Proofs.YtadmbphefpfbmaaGreatDoor
open Go.RowKit
set_option linter.unusedVariables false
set_option linter.unusedSimpArgs false
attribute [local go_sem ↓] Go.wp_at_zero Go.wp_at_succ
theorem oneEl (a b : Int) : ∀ y ∈ (#[.int .i64 a, .int .i64 b] : Array Value).toList, y.oneCell' = true := by
  intro y hy
  simp only [List.mem_cons, List.not_mem_nil, or_false] at hy
  rcases hy with rfl | rfl <;> rfl
theorem snoc_nums (xs : List El) (a b : Int) : ints (eNums xs) ++ (#[.int .i64 a, .int .i64 b] : Array Value).toList = ints (eNums (xs ++ [(a, b)])) := by
  rw [← app_nums']; rfl
theorem own_el {w : World} {b n : Nat} {v : Value} {es : List El} (h : w.ownsRow b 110 2 v n (ints (eNums es))) : es.length = n := by
  have h1 := h.1
  simp [eNums_len] at h1
  omega
abbrev RetE (w : World) (es : List El) : Ending → World → Prop := RetN w 110 2 (ints (eNums es))
def sN : Value → Nat
  | .slice _ n _ => n
  | _ => 0
set_option maxHeartbeats 4000000 in
set_option maxRecDepth 100000 in
theorem l23Place_any (w : World) (k n : Nat) (hk : k ≤ 100) (hn : n ≤ 100) : Calls Tryz.prog 127 #[.int .i64 (k : Int), .int .i64 (n : Int)] w (RetE w (placeE k n)) := by
  obtain ⟨w1, hw1⟩ : ∃ w1, w1 = w.alloc (.cells #[] 110) := ⟨_, rfl⟩
  have HB1 : Hid (Below w.heap.size w w1) := Lib.hid (by rw [hw1]; exact below_new _ _)
  have HO1 : Hid (w1.ownsRow w.heap.size 110 2 (.slice (some ⟨w.heap.size, 0, none⟩) 0 0) 0 (ints (eNums []))) := Lib.hid (by rw [hw1]; exact ownN_lit w #[] 0 2 110 rfl (by omega))
  have HK : Hid (k ≤ 100 ∧ n ≤ 100) := Lib.hid ⟨hk, hn⟩
  have hw9 : IntKind.i64.wrap ((n : Int) - 1) = (n : Int) - 1 := IntWalk.i64_in _ (by omega)
  clear hk hn
  go_enter Tryz.func127, Tryz.ntmps127
  go_upto_region 2 with fail
  rw [← hw1]
  clear hw1
  by_cases h : k + 1 < n
  · have HP : Hid (placeE k n = [(3, 0)] ++ (List.replicate k (4, 0) ++ [(1, 0)])) := Lib.hid (by unfold placeE; rw [if_pos h])
    have h1 : (k : Int) < (n : Int) - 1 := by omega
    clear h
    go_upto_region 4 with (at_builtin; go_must (refine wpList_app1N eltEl rfl _ _ rfl w1 w.heap.size (.slice (some ⟨w.heap.size, 0, none⟩) 0 0) 0 (ints (eNums [])) (by rfl) HO1.out #[.int .i64 3, .int .i64 0] rfl (oneEl _ _) (by rfl) HB1.out.size (by omega) ?_); rintro A2 c2 w2 ho2 hb2 hg2
                           rw [snoc_nums, List.nil_append] at ho2
                           have HO2 := Lib.hid ho2
                           have HB2 : Hid (Below w.heap.size w w2) := Lib.hid (HB1.out.trans hb2)
                           clear ho2 hb2 hg2)
    clear hw9 h1
    go_loopw [0, 5] (fun u v wr => ∃ (j m q : Nat) (A5 : Option Addr) (c5 : Nat), j + m = k ∧ u = .int .i64 (m : Int) ∧ v = .slice A5 q c5 ∧ Hid (wr.ownsRow w.heap.size 110 2 (.slice A5 q c5) q (ints (eNums (([(3, 0)] : List El) ++ List.replicate j (4, 0))))) ∧ Hid (q ≤ 1 + j) ∧ Hid (Below w.heap.size w wr)) (fun u _ _ => (intOf u).toNat)
    case atStart => exact ⟨0, k, _, _, _, by omega, rfl, rfl, Lib.hid (by simpa using HO2.out), Lib.hid (by omega), HB2⟩
    case round =>
      clear HO2 HB2
      obtain ⟨j, m, q, A5, c5, hjm, rfl, rfl, HO5, HQ5, HB5⟩ := hrel
      have HJ : Hid (q ≤ 1099511627776) := Lib.hid (by have := HK.out; have := HQ5.out; omega)
      cases m with
      | zero =>
        obtain rfl : j = k := by omega
        go_wp2_with (at_builtin; go_must (refine wpList_app1N eltEl rfl _ _ rfl wr w.heap.size (.slice A5 q c5) q (ints (eNums (([(3, 0)] : List El) ++ List.replicate j (4, 0)))) (by rfl) HO5.out #[.int .i64 1, .int .i64 0] rfl (oneEl _ _) (by rfl) HB5.out.size HJ.out ?_); rintro A6 c6 w6 ho6 hb6 hg6
                     rw [snoc_nums, List.append_assoc, ← HP.out] at ho6
                     have HO6 := Lib.hid ho6
                     have HB6 : Hid (Below w.heap.size w w6) := Lib.hid (HB5.out.trans hb6)
                     clear ho6 hb6 hg6)
        go_ret
        exact ⟨A6, q + 1, c6, rfl, HO6.out, HB6.out⟩
      | succ m =>
        have hm0 : (0 : Int) < ((m + 1 : Nat) : Int) := by omega
        have hk9 := HK.out
        go_wp2_with (at_builtin; go_must (refine wpList_app1N eltEl rfl _ _ rfl wr w.heap.size (.slice A5 q c5) q (ints (eNums (([(3, 0)] : List El) ++ List.replicate j (4, 0)))) (by rfl) HO5.out #[.int .i64 4, .int .i64 0] rfl (oneEl _ _) (by rfl) HB5.out.size HJ.out ?_); rintro A6 c6 w6 ho6 hb6 hg6
                     rw [snoc_nums, List.append_assoc, ← List.replicate_succ'] at ho6
                     have HO6 := Lib.hid ho6
                     have HB6 : Hid (Below w.heap.size w w6) := Lib.hid (HB5.out.trans hb6)
                     clear ho6 hb6 hg6)
        go_roundw
        case rel => exact ⟨j + 1, m, q + 1, A6, c6, by omega, by go_num, rfl, HO6, Lib.hid (by have := HQ5.out; omega), HB6⟩
        case measure => simp [intOf]
  · have HP : Hid (placeE k n = [] ++ (List.replicate k (4, 0) ++ [(1, 0)])) := Lib.hid (by unfold placeE; rw [if_neg h])
    have h1 : ¬ (k : Int) < (n : Int) - 1 := by omega
    clear h
    go_upto_region 4 with fail
    clear hw9 h1
    go_loopw [0, 5] (fun u v wr => ∃ (j m q : Nat) (A5 : Option Addr) (c5 : Nat), j + m = k ∧ u = .int .i64 (m : Int) ∧ v = .slice A5 q c5 ∧ Hid (wr.ownsRow w.heap.size 110 2 (.slice A5 q c5) q (ints (eNums (([] : List El) ++ List.replicate j (4, 0))))) ∧ Hid (q ≤ 1 + j) ∧ Hid (Below w.heap.size w wr)) (fun u _ _ => (intOf u).toNat)
    case atStart => exact ⟨0, k, _, _, _, by omega, rfl, rfl, Lib.hid (by simpa using HO1.out), Lib.hid (by omega), HB1⟩
    case round =>
      clear HO1 HB1
      obtain ⟨j, m, q, A5, c5, hjm, rfl, rfl, HO5, HQ5, HB5⟩ := hrel
      have HJ : Hid (q ≤ 1099511627776) := Lib.hid (by have := HK.out; have := HQ5.out; omega)
      cases m with
      | zero =>
        obtain rfl : j = k := by omega
        go_wp2_with (at_builtin; go_must (refine wpList_app1N eltEl rfl _ _ rfl wr w.heap.size (.slice A5 q c5) q (ints (eNums (([] : List El) ++ List.replicate j (4, 0)))) (by rfl) HO5.out #[.int .i64 1, .int .i64 0] rfl (oneEl _ _) (by rfl) HB5.out.size HJ.out ?_); rintro A6 c6 w6 ho6 hb6 hg6
                     rw [snoc_nums, List.append_assoc, ← HP.out] at ho6
                     have HO6 := Lib.hid ho6
                     have HB6 : Hid (Below w.heap.size w w6) := Lib.hid (HB5.out.trans hb6)
                     clear ho6 hb6 hg6)
        go_ret
        exact ⟨A6, q + 1, c6, rfl, HO6.out, HB6.out⟩
      | succ m =>
        have hm0 : (0 : Int) < ((m + 1 : Nat) : Int) := by omega
        have hk9 := HK.out
        go_wp2_with (at_builtin; go_must (refine wpList_app1N eltEl rfl _ _ rfl wr w.heap.size (.slice A5 q c5) q (ints (eNums (([] : List El) ++ List.replicate j (4, 0)))) (by rfl) HO5.out #[.int .i64 4, .int .i64 0] rfl (oneEl _ _) (by rfl) HB5.out.size HJ.out ?_); rintro A6 c6 w6 ho6 hb6 hg6
                     rw [snoc_nums, List.append_assoc, ← List.replicate_succ'] at ho6
                     have HO6 := Lib.hid ho6
                     have HB6 : Hid (Below w.heap.size w w6) := Lib.hid (HB5.out.trans hb6)
                     clear ho6 hb6 hg6)
        go_roundw
        case rel => exact ⟨j + 1, m, q + 1, A6, c6, by omega, by go_num, rfl, HO6, Lib.hid (by have := HQ5.out; omega), HB6⟩
        case measure => simp [intOf]
theorem pack_step {es : List (List El)} {i : Nat} {e : List El} {out : List El} (h : es[i]? = some e) (hp : out ++ packE (es.drop i) = packE es) :
    (i + 1 < es.length → (out ++ [(2, 0)] ++ e) ++ packE (es.drop (i + 1)) = packE es) ∧ (¬ i + 1 < es.length → (out ++ e) ++ packE (es.drop (i + 1)) = packE es) := by
  rw [drop_get h] at hp
  refine ⟨fun hl => ?_, fun hl => ?_⟩
  · obtain ⟨f, hf⟩ := get_some (xs := es) (k := i + 1) hl
    rw [drop_get hf] at hp ⊢
    rw [← hp]
    simp [packE]
  · have h2 : es.drop (i + 1) = [] := List.drop_of_length_le (by omega)
    rw [h2] at hp ⊢
    rw [← hp]
    simp [packE]
theorem sumL_mem {es : List (List El)} {e : List El} (h : e ∈ es) : e.length ≤ sumL es := by
  induction es with
  | nil => simp at h
  | cons x r ih =>
    simp only [sumL, List.map_cons, List.sum_cons] at ih ⊢
    rcases List.mem_cons.1 h with rfl | h
    · omega
    · have := ih h; omega
set_option maxHeartbeats 4000000 in
set_option maxRecDepth 100000 in
theorem l23Packed_any (w : World) (A : Option Addr) (n c : Nat) (es : List (List El)) (hr : RdX w A n es) (hn : n ≤ 1000) (hs : sumL es ≤ 1000000) : Calls Tryz.prog 125 #[.slice A n c] w (RetE w (packE es)) := by
  obtain ⟨w1, hw1⟩ : ∃ w1, w1 = w.alloc (.cells #[] 110) := ⟨_, rfl⟩
  have HB1 : Hid (Below w.heap.size w w1) := Lib.hid (by rw [hw1]; exact below_new _ _)
  have HO1 : Hid (w1.ownsRow w.heap.size 110 2 (.slice (some ⟨w.heap.size, 0, none⟩) 0 0) 0 (ints (eNums []))) := Lib.hid (by rw [hw1]; exact ownN_lit w #[] 0 2 110 rfl (by omega))
  have HL : Hid (es.length = n) := Lib.hid hr.len
  have HN := Lib.hid hn; have HS := Lib.hid hs
  have HR := Lib.hid hr
  have HPL : Hid ((packE es).length ≤ 1001000) := Lib.hid (by have := packE_len es; have := hr.len; omega)
  clear hr hn hs
  go_enter Tryz.func125, Tryz.ntmps125
  go_upto_region 2 with fail
  rw [← hw1]
  clear hw1
  go_wp2_with fail
  go_loopw [3, 4] (fun v u wr => ∃ (i q : Nat) (A5 : Option Addr) (c5 : Nat) (out : List El), i ≤ n ∧ u = .int .i64 (i : Int) ∧ v = .slice A5 q c5 ∧ Hid (wr.ownsRow w.heap.size 110 2 (.slice A5 q c5) q (ints (eNums out))) ∧ Hid (out ++ packE (es.drop i) = packE es) ∧ Hid (Below w.heap.size w wr)) (fun _ u _ => n - (intOf u).toNat)
  case atStart => exact ⟨0, _, _, _, [], Nat.zero_le _, rfl, rfl, HO1, Lib.hid rfl, HB1⟩
  case round =>
    clear HO1 HB1
    obtain ⟨i, q, A5, c5, out, hi, rfl, rfl, HO5, HP5, HB5⟩ := hrel
    have HOL : Hid (q ≤ 1001000) := Lib.hid (by have h1 := congrArg List.length HP5.out; rw [List.length_append] at h1; have := HPL.out; have := own_el HO5.out; omega)
    by_cases hlt : i < n
    · have hlt' : (i : Int) < (n : Int) := by omega
      obtain ⟨e, he⟩ := get_some (xs := es) (k := i) (by rw [HL.out]; exact hlt)
      obtain ⟨b, off, A', n', c', rfl, hbs, hc, hrr⟩ := HR.out.at_ he
      have hc' := (HB5.out.cell (p := ⟨b, off + i, none⟩) hbs).trans hc
      have HCW := Lib.hid (fun (wx : World) (hb : Below w.heap.size w wx) => (hb.cell (p := ⟨b, off + i, none⟩) hbs).trans hc)
      obtain ⟨hs1, hs2⟩ := pack_step he HP5.out
      rw [HL.out] at hs1 hs2
      have HRE := Lib.hid hrr
      have HEL : Hid (n' ≤ 1000000) := Lib.hid (by have h1 := sumL_mem (List.mem_of_getElem? he); have h2 := HS.out; have := rdE_len hrr; omega)
      have hi0 : (0 : Int) ≤ (i : Int) := by omega
      have hn9 := HN.out
      clear he hc hrr
      by_cases hl : i + 1 < n
      · have h1 : (i : Int) + 1 < (n : Int) := by omega
        have HS1 := Lib.hid (hs1 hl)
        have HX1 : Hid (q ≤ 1099511627776) := Lib.hid (by have := HOL.out; omega)
        have HX2 : Hid (q + 1 + n' ≤ 1099511627776) := Lib.hid (by have := HOL.out; have := HEL.out; omega)
        clear hs1 hs2 hl
        go_upto_region 7 with (at_builtin; go_must (refine wpList_app1N eltEl rfl _ _ rfl wr w.heap.size (.slice A5 q c5) q (ints (eNums out)) (by rfl) HO5.out #[.int .i64 2, .int .i64 0] rfl (oneEl _ _) (by rfl) HB5.out.size HX1.out ?_); rintro A6 c6 w6 ho6 hb6 hg6
                               rw [snoc_nums] at ho6
                               have HO6 := Lib.hid ho6
                               have HB6 : Hid (Below w.heap.size w w6) := Lib.hid (HB5.out.trans hb6)
                               have hc6 := HCW.out w6 HB6.out
                               have HRE6 := Lib.hid (HRE.out.below HB6.out (Nat.le_refl _))
                               clear ho6 hb6 hg6 hc')
        go_wp2_with (at_builtin; go_must (refine wpList_appSN eltEl rfl _ _ rfl w6 w.heap.size (.slice A6 (q + 1) c6) (q + 1) _ (by rfl) HO6.out A' n' c' (ints (eNums e)) (by rfl) HRE6.out (ints_one1 _) HB6.out.size HX2.out ?_); rintro A7 c7 w7 ho7 hb7 hg7
                     rw [app_nums'] at ho7
                     have HO7 := Lib.hid ho7
                     have HB7 : Hid (Below w.heap.size w w7) := Lib.hid (HB6.out.trans hb7)
                     clear ho7 hb7 hg7)
        go_roundw
        case rel => exact ⟨i + 1, _, A7, c7, _, by omega, by go_num, rfl, HO7, HS1, HB7⟩
        case measure => simp [intOf]; omega
      · have h1 : ¬ (i : Int) + 1 < (n : Int) := by omega
        have HS2 := Lib.hid (hs2 hl)
        have HX2 : Hid (q + n' ≤ 1099511627776) := Lib.hid (by have := HOL.out; have := HEL.out; omega)
        have HRE6 := Lib.hid (HRE.out.below HB5.out (Nat.le_refl _))
        clear hs1 hs2 hl
        go_wp2_with (at_builtin; go_must (refine wpList_appSN eltEl rfl _ _ rfl wr w.heap.size (.slice A5 q c5) q _ (by rfl) HO5.out A' n' c' (ints (eNums e)) (by rfl) HRE6.out (ints_one1 _) HB5.out.size HX2.out ?_); rintro A7 c7 w7 ho7 hb7 hg7
                     rw [app_nums'] at ho7
                     have HO7 := Lib.hid ho7
                     have HB7 : Hid (Below w.heap.size w w7) := Lib.hid (HB5.out.trans hb7)
                     clear ho7 hb7 hg7)
        go_roundw
        case rel => exact ⟨i + 1, _, A7, c7, _, by omega, by go_num, rfl, HO7, HS2, HB7⟩
        case measure => simp [intOf]; omega
    · obtain rfl : i = n := by omega
      have h1 := HP5.out
      rw [List.drop_of_length_le (by rw [HL.out]; omega)] at h1
      simp only [packE, List.append_nil] at h1
      subst h1
      go_wp2_with fail
      go_ret
      exact ⟨A5, q, c5, rfl, HO5.out, HB5.out⟩
theorem move_step {es : List El} {i n : Nat} {e : El} (h : es[i]? = some e) : moveE n (es.take (i + 1)) = moveE n (es.take i) ++ (if e.1 = 1 then placeE e.2.toNat n else [e]) := by
  rw [List.take_add_one, h]
  simp [moveE]
set_option maxHeartbeats 4000000 in
set_option maxRecDepth 100000 in
theorem l23Moved_any (w : World) (A : Option Addr) (m c n : Nat) (es : List El) (hr : RdE w A m es) (hm : m ≤ 1000) (hn : n ≤ 100) (hv : ∀ e ∈ es, 0 ≤ e.2 ∧ e.2 ≤ 5) : Calls Tryz.prog 126 #[.slice A m c, .int .i64 (n : Int)] w (RetE w (moveE n es)) := by
  obtain ⟨w1, hw1⟩ : ∃ w1, w1 = w.alloc (.cells #[] 110) := ⟨_, rfl⟩
  have HB1 : Hid (Below w.heap.size w w1) := Lib.hid (by rw [hw1]; exact below_new _ _)
  have HO1 : Hid (w1.ownsRow w.heap.size 110 2 (.slice (some ⟨w.heap.size, 0, none⟩) 0 0) 0 (ints (eNums []))) := Lib.hid (by rw [hw1]; exact ownN_lit w #[] 0 2 110 rfl (by omega))
  have HL : Hid (es.length = m) := Lib.hid (rdE_len hr)
  have HM := Lib.hid hm; have HN := Lib.hid hn; have HV := Lib.hid hv
  have HR := Lib.hid hr
  clear hr hm hn hv
  go_enter Tryz.func126, Tryz.ntmps126
  go_upto_region 2 with fail
  rw [← hw1]
  clear hw1
  go_wp2_with fail
  go_loopw [5, 6] (fun v u wr => ∃ (i q : Nat) (A5 : Option Addr) (c5 : Nat), i ≤ m ∧ u = .int .i64 (i : Int) ∧ v = .slice A5 q c5 ∧ Hid (wr.ownsRow w.heap.size 110 2 (.slice A5 q c5) q (ints (eNums (moveE n (es.take i))))) ∧ Hid (q ≤ 7 * i) ∧ Hid (Below w.heap.size w wr)) (fun _ u _ => m - (intOf u).toNat)
  case atStart => exact ⟨0, _, _, _, Nat.zero_le _, rfl, rfl, HO1, Lib.hid (by omega), HB1⟩
  case round =>
    clear HO1 HB1
    obtain ⟨i, q, A5, c5, hi, rfl, rfl, HO5, HQ5, HB5⟩ := hrel
    by_cases hlt : i < m
    · have hlt' : (i : Int) < (m : Int) := by omega
      obtain ⟨e, he⟩ := get_some (xs := es) (k := i) (by rw [HL.out]; exact hlt)
      obtain ⟨b, off, rfl, hbs, q0, q1⟩ := rdE (HR.out.below HB5.out (Nat.le_refl _)) he
      have hst := move_step (n := n) he
      have hev := HV.out e (List.mem_of_getElem? he)
      obtain ⟨ek, ev⟩ := e
      simp only at q0 q1 hst hev
      have hi0 : (0 : Int) ≤ (i : Int) := by omega
      have hm9 := HM.out
      have HX1 : Hid (q ≤ 1000000) := Lib.hid (by have := HQ5.out; omega)
      clear he
      by_cases hek : ek = 1
      · subst hek
        obtain ⟨d, rfl⟩ : ∃ d : Nat, ev = (d : Int) := ⟨ev.toNat, by omega⟩
        rw [if_pos rfl] at hst
        simp only [Int.toNat_natCast] at hst
        have HST := Lib.hid hst
        have HPL : Hid ((placeE d n).length ≤ 7) := Lib.hid (by have := placeE_len d n; omega)
        have HPC := Lib.hid (l23Place_any wr d n (by omega) HN.out)
        clear hst hev
        go_wp2_with (first
          | (go_at_call 127
             refine HPC.out.mono ?_
             rintro e w6 ⟨A6, n6, c6, rfl, ho6, hb6⟩
             have HR6 := Lib.hid (ownN_rd ho6)
             have HN6 : Hid (n6 ≤ 7) := Lib.hid (by have := own_el ho6; have := HPL.out; omega)
             have HO6 := Lib.hid (ownN_below HO5.out hb6 (Nat.le_refl _))
             have HB6 : Hid (Below w.heap.size w w6) := Lib.hid (bqcP hb6 HB5.out)
             clear ho6 hb6)
          | (at_builtin; go_must (refine wpList_appSN eltEl rfl _ _ rfl w6 w.heap.size (.slice A5 q c5) q _ (by rfl) HO6.out A6 n6 c6 (ints (eNums (placeE d n))) (by rfl) HR6.out (ints_one1 _) HB6.out.size (by have := HX1.out; have := HN6.out; omega) ?_); rintro A7 c7 w7 ho7 hb7 hg7
             rw [app_nums', ← HST.out] at ho7
             have HO7 := Lib.hid ho7
             have HB7 : Hid (Below w.heap.size w w7) := Lib.hid (HB6.out.trans hb7)
             clear ho7 hb7 hg7))
        go_roundw
        case rel => exact ⟨i + 1, _, A7, c7, by omega, by go_num, rfl, HO7, Lib.hid (by have := HQ5.out; have := HN6.out; omega), HB7⟩
        case measure => simp [intOf]; omega
      · rw [if_neg hek] at hst
        have HST := Lib.hid hst
        have hek2 : (ek == 1) = false := by rw [beq_eq_false_iff_ne]; exact hek
        clear hst hev hek
        go_wp2_with (at_builtin; go_must (refine wpList_app1N eltEl rfl _ _ rfl wr w.heap.size (.slice A5 q c5) q _ (by rfl) HO5.out #[.int .i64 ek, .int .i64 ev] rfl (oneEl _ _) (by rfl) HB5.out.size (by have := HX1.out; omega) ?_); rintro A7 c7 w7 ho7 hb7 hg7
                     rw [snoc_nums, ← HST.out] at ho7
                     have HO7 := Lib.hid ho7
                     have HB7 : Hid (Below w.heap.size w w7) := Lib.hid (HB5.out.trans hb7)
                     clear ho7 hb7 hg7)
        go_roundw
        case rel => exact ⟨i + 1, _, A7, c7, by omega, by go_num, rfl, HO7, Lib.hid (by have := HQ5.out; omega), HB7⟩
        case measure => simp [intOf]; omega
    · obtain rfl : i = m := by omega
      have h1 := HO5.out
      rw [List.take_of_length_le (by rw [HL.out]; omega)] at h1
      have HO6 := Lib.hid h1
      clear h1
      go_wp2_with fail
      go_ret
      exact ⟨A5, q, c5, rfl, HO6.out, HB5.out⟩
end Go.Proofs.YtadmbphefpfbmaaGreatDoor
