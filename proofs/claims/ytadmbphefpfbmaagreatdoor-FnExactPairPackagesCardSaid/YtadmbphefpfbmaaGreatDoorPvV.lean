/- All variables of a program (program): slices.Sort, slices.Compact, whileVariables. -/
import Derived.Test.YtadmbphefpfbmaaGreatDoorSrt
import Derived.Lib.OwnBridge
namespace Go.Proofs.YtadmbphefpfbmaaGreatDoor
open Go.RowKit Go.Shelf Go.Lib Go.Sort
set_option linter.unusedVariables false
set_option linter.unusedSimpArgs false
attribute [local go_sem ↓] Go.wp_at_zero Go.wp_at_succ
theorem ch_grow (w : World) (os : Array Obj) : Ch (fun _ => False) w (grow w os) :=
  ⟨rfl, rfl, rfl, by simp [grow], fun k hk _ => by simp [grow, Array.getElem?_append_left hk]⟩
theorem ch_put (w : World) (enc : Int → Value) (g q : Nat) (d : Array Int) : Ch (· = g) w (putRow enc (Sort.ahead w q) g 0 d) :=
  ⟨rfl, rfl, rfl, by simp [putRow, mapBlock, Sort.ahead], fun k hk hn => by
    have h : g ≠ k := fun e => hn e.symm
    simp [putRow, mapBlock, Sort.ahead, Array.getElem?_modify, h]⟩
/-- The members of a list without neighbours that are equal. -/
theorem comp_mem (zs : List Int) : ∀ m, m ≤ zs.length → ∀ x, x ∈ compactUpTo zs.toArray m ↔ x ∈ zs.take m
  | 0, _, x => by simp [compactUpTo]
  | m + 1, h, x => by
    have ih := comp_mem zs m (by omega)
    have hz : zs.toArray[m]! = zs[m]'(by omega) := by simp [getElem!_pos, show m < zs.length by omega]
    rw [compactUpTo_succ, List.mem_append, ih, List.take_succ_eq_append_getElem (by omega), List.mem_append]
    cases hk : keeps zs.toArray m with
    | true => simp [hz]
    | false =>
      simp only [Bool.false_eq_true, if_false, List.not_mem_nil, or_false, List.mem_singleton]
      refine ⟨.inl, fun hx => ?_⟩
      rcases hx with hx | hx
      · exact hx
      · simp only [keeps, decide_eq_false_iff_not, not_or, ne_eq, Decidable.not_not] at hk
        obtain ⟨hm0, he⟩ := hk
        have hz1 : zs.toArray[m - 1]! = zs[m - 1]'(by omega) := by simp [getElem!_pos, show m - 1 < zs.length by omega]
        rw [hz, hz1] at he
        rw [hx, he, List.mem_take_iff_getElem]
        exact ⟨m - 1, by omega, rfl⟩
theorem sortI_any (w : World) (base : Nat) (A : Option Addr) (n c : Nat) (zs : List Int) (ho : w.ownsRow base 2 1 (.slice A n c) n (ints zs)) (hn : n ≤ 1000000) :
    Calls Tryz.prog 128 #[.slice A n c] w (fun e w' => e = .returned (.tuple #[]) ∧ w'.ownsRow base 2 1 (.slice A n c) n (ints (zs.mergeSort fun x y => decide (x ≤ y))) ∧ Ch (Fo (.slice A n c)) w w') := by
  have hl : zs.length = n := by simpa using ho.1
  rcases Nat.eq_zero_or_pos n with h0 | h0
  · subst h0
    have hz : zs = [] := List.eq_nil_of_length_eq_zero hl
    subst hz
    refine (AnyM.slices_Sort_int_none srtLaid A c w).mono ?_
    rintro e w' ⟨rfl, rfl⟩
    exact ⟨rfl, by simpa using ho, Ch.refl _ _⟩
  · obtain ⟨g, cap, hv, hb, hlt, hnc, hm, -, hh⟩ := holds_of_ownsRow (enc := Value.int .i64) (zs := zs) ho (by intro e; injection e with _ e2 _; omega)
    injection hv with e1 _ e3
    subst e1 e3
    subst hl
    refine (AnyM.slices_Sort_int srtLaid g 0 c zs w hh hlt (by omega)).mono ?_
    rintro e w' ⟨rfl, k, os, rfl⟩
    have hp := ownsRow_putRow (enc := Value.int .i64) (q := k) (k := zs.length) (ys := zs.mergeSort fun x y => decide (x ≤ y)) ho (by rw [List.length_mergeSort]) (Nat.le_refl _)
    rw [List.take_of_length_le (by rw [List.length_mergeSort]; exact Nat.le_refl _)] at hp
    refine ⟨rfl, own_ch hp (ch_grow _ os) (fun _ _ h => h.elim), ?_⟩
    have h1 := (ch_put w (Value.int .i64) g k (zs.mergeSort fun x y => decide (x ≤ y)).toArray)
    have h2 : Ch (Fo (.slice (some ⟨g, 0, none⟩) zs.length c)) w (putRow (Value.int .i64) (Sort.ahead w k) g 0 (zs.mergeSort fun x y => decide (x ≤ y)).toArray) := ⟨h1.os, h1.tape, h1.output, h1.size, fun q hq hf => h1.block q hq (fun e => hf (by rw [show q = g from e]; rfl))⟩
    have h3 := ch_grow (putRow (Value.int .i64) (Sort.ahead w k) g 0 (zs.mergeSort fun x y => decide (x ≤ y)).toArray) os
    exact ⟨h3.os.trans h2.os, h3.tape.trans h2.tape, h3.output.trans h2.output, Nat.le_trans h2.size h3.size, fun q hq hf => (h3.block q (Nat.lt_of_lt_of_le hq h2.size) (fun h => h)).trans (h2.block q hq hf)⟩
theorem compactI_any (w : World) (base : Nat) (A : Option Addr) (n c : Nat) (zs : List Int) (ho : w.ownsRow base 2 1 (.slice A n c) n (ints zs)) (hn : n ≤ 1000000) (h0 : 0 < n) :
    Calls Tryz.prog 129 #[.slice A n c] w (fun e w' => ∃ m ys, e = .returned (.slice A m c) ∧ m ≤ n ∧ w'.ownsRow base 2 1 (.slice A m c) m (ints ys) ∧ (∀ x, x ∈ ys ↔ x ∈ zs) ∧ Ch (Fo (.slice A n c)) w w') := by
  have hl : zs.length = n := by simpa using ho.1
  obtain ⟨g, cap, hv, hb, hlt, hnc, hm, -, hh⟩ := holds_of_ownsRow (enc := Value.int .i64) (zs := zs) ho (by intro e; injection e with _ e2 _; omega)
  injection hv with e1 _ e3
  subst e1 e3
  subst hl
  have h := AnyE.slices_Compact cmpLaid (Value.int .i64) (fun _ => rfl) (EqlAt.intD _ _ .i64) (NeqAt.intD _ _ .i64) 0 (by exact Tryz.zeroValue2) g 0 c zs.toArray w hh (by simp; omega) (by simpa using hnc)
  simp only [List.size_toArray] at h
  refine h.mono ?_
  rintro e w' ⟨rfl, q, rfl⟩
  have hcl : (compactUpTo zs.toArray zs.length).length ≤ zs.length := by
    unfold compactUpTo
    rw [List.length_map]
    exact Nat.le_trans (List.length_filter_le _ _) (by simp)
  have hp := ownsRow_putRow (enc := Value.int .i64) (q := q) (k := (compactUpTo zs.toArray zs.length).length) (ys := compactUpTo zs.toArray zs.length ++ List.replicate (zs.length - (compactUpTo zs.toArray zs.length).length) 0) ho (by simp; omega) hcl
  rw [List.take_left' rfl] at hp
  refine ⟨_, _, rfl, hcl, hp, fun x => ?_, ?_⟩
  · have := comp_mem zs zs.length (Nat.le_refl _) x
    rwa [List.take_length] at this
  · have h1 := ch_put w (Value.int .i64) g q (compactUpTo zs.toArray zs.length ++ List.replicate (zs.length - (compactUpTo zs.toArray zs.length).length) 0).toArray
    exact ⟨h1.os, h1.tape, h1.output, h1.size, fun k hk hf => h1.block k hk (fun e => hf (by rw [show k = g from e]; rfl))⟩
theorem vE_step {es : List El} {k : Nat} {e : El} (h : es[k]? = some e) : varsE (es.take (k + 1)) = varsE (es.take k) ++ (if e.1 = 1 then [e.2] else []) := by
  rw [List.take_add_one, h]; simp [varsE]
theorem vL_step {cs : List Cmd} {k : Nat} {x : Cmd} (h : cs[k]? = some x) : varsL (cs.take (k + 1)) = (varsL (cs.take k) ++ (if x.k = 0 then [x.v] else [])) ++ varsE x.e := by
  rw [List.take_add_one, h]; simp [varsL, varsC]
theorem Tryz.infoI2 : (Tryz.prog.info? 2).map (fun i => (i.zero, i.size, i.bytes)) = some (some (.int .i64 0), 1, 8) := by kernel_rfl
theorem Tryz.eltI : Elt Tryz.prog 129 2 (.int .i64 0) := Elt.mk_ Tryz.underlying129 Tryz.infoI2 rfl (by decide)
def VarsP (w : World) (cs : List Cmd) (e : Ending) (w' : World) : Prop := ∃ A m c xs, e = .returned (.slice A m c) ∧ w'.ownsRow w.heap.size 2 1 (.slice A m c) m (ints xs) ∧ m ≤ 1000000 ∧ (∀ x, x ∈ xs ↔ x ∈ varsL cs) ∧ Below w.heap.size w w'
set_option maxHeartbeats 8000000 in
set_option maxRecDepth 100000 in
theorem whileVariables_any (w : World) (A : Option Addr) (n c : Nat) (cs : List Cmd) (hr : RdC w A n cs) (hok : okC cs = true) (hn : n ≤ 80) (hv : varsL cs ≠ []) : Calls Tryz.prog 85 #[.slice A n c] w (VarsP w cs) := by
  have HL : Hid (cs.length = n) := Lib.hid hr.len
  have HM := Lib.hid (okC_mem _ (Nat.le_refl _) hok)
  have HR := Lib.hid hr
  have HNN := Lib.hid hn
  have HV := Lib.hid hv
  obtain ⟨w1, hw1⟩ : ∃ w1, w1 = w.alloc (.cells #[] 2) := ⟨_, rfl⟩
  have HB1 : Hid (Below w.heap.size w w1) := Lib.hid (by rw [hw1]; exact below_new _ _)
  have HO1 : Hid (w1.ownsRow w.heap.size 2 1 (.slice (some ⟨w.heap.size, 0, none⟩) 0 0) 0 (ints (varsL (cs.take 0)))) := Lib.hid (by rw [hw1]; exact own_lit w #[] 0 2 rfl (by omega))
  clear hr hok hn hv
  go_enter Tryz.func85, Tryz.ntmps85
  go_upto_region 2 with fail
  rw [← hw1]
  clear hw1
  go_wp2_with fail
  go_loopw [3, 11] (fun v u wr => ∃ (i q : Nat) (A5 : Option Addr) (c5 : Nat), i ≤ n ∧ u = .int .i64 (i : Int) ∧ v = .slice A5 q c5 ∧ Hid (wr.ownsRow w.heap.size 2 1 (.slice A5 q c5) q (ints (varsL (cs.take i)))) ∧ Hid (q ≤ 41 * i) ∧ Hid (Below w.heap.size w wr)) (fun _ u _ => n - (intOf u).toNat)
  case atStart => exact ⟨0, _, _, _, Nat.zero_le _, rfl, rfl, HO1, Lib.hid (Nat.le_refl _), HB1⟩
  case round =>
    clear HO1 HB1
    obtain ⟨i, q, A5, c5, hi, rfl, rfl, HO5, HQ5, HB5⟩ := hrel
    by_cases hlt : i < n
    · have hlt' : (i : Int) < (n : Int) := by omega
      obtain ⟨x, hx⟩ := get_some (xs := cs) (k := i) (by rw [HL.out]; exact hlt)
      obtain ⟨hwf, hkv⟩ := HM.out x (List.mem_of_getElem? hx)
      obtain ⟨b, off, A', n', c', rfl, hbl, q0, q1, q2, q3, hn', hc', hre⟩ := (HR.out.below HB5.out (Nat.le_refl _)).at_ hx
      have hre0 : RdE w A' n' x.e := by
        obtain ⟨b1, off1, A1, n1, c1, e1, _, _, _, _, p3, _, _, k3⟩ := HR.out.at_ hx
        injection e1 with e1
        injection e1 with e1 e2
        subst e1 e2
        have p4 := (HB5.out.cell (p := ⟨b, off + i * 4 + 3, none⟩) (by assumption)).trans p3
        rw [q3] at p4
        injection p4 with p4
        injection p4 with p5 p6 p7
        subst p5 p6 p7
        exact k3
      have HRE := Lib.hid hre0
      have HNL : Hid (x.e.length = n' ∧ n' ≤ 40) := Lib.hid ⟨rdE_len hre, by have := rdE_len hre; have := (wfE_mem hwf).1; omega⟩
      have hst := vL_step hx
      obtain ⟨xk, xv, xl, xe⟩ := x
      simp only at q0 q1 q2 q3 HNL hkv hst HRE
      have hi0 : (0 : Int) ≤ (i : Int) := by omega
      have hn80 := HNN.out
      obtain ⟨L0, hL0⟩ : ∃ L0, L0 = varsL (cs.take i) ++ (if xk = 0 then [xv] else []) := ⟨_, rfl⟩
      rw [← hL0] at hst
      have HSTC := Lib.hid hst
      have HL0 := Lib.hid hL0
      obtain ⟨w2, hw2⟩ : ∃ w2, w2 = wr.alloc (.cells #[.int .i64 xk, .int .i64 xv, .int .i64 xl, .slice A' n' c'] 44) := ⟨_, rfl⟩
      have hb2 : Below wr.heap.size wr w2 := by rw [hw2]; exact below_new _ _
      have HX2 : Hid (w2.heap[wr.heap.size]? = some (.cells #[.int .i64 xk, .int .i64 xv, .int .i64 xl, .slice A' n' c'] 44 (0, 0))) := Lib.hid (by rw [hw2]; exact box_new _ _ _)
      have HOW := Lib.hid (own_below HO5.out hb2 (Nat.le_refl _))
      have HBW : Hid (Below w.heap.size w w2) := Lib.hid (bqcP hb2 HB5.out)
      clear hx hwf hn' hc' hre hre0 hst hL0 hb2
      go_upto_region 5 with fail
      rw [← hw2]
      clear hw2 q0 q1 q2 q3
      have x0 := blk_cell HX2.out 0 rfl
      have x1 := blk_cell HX2.out 1 rfl
      have x3 := blk_cell HX2.out 3 rfl
      rcases hkv with ⟨hk2, hva, hvb, hvc⟩ | ⟨hk2, hva⟩
      · subst hk2
        go_upto_region 7 with (at_builtin; go_must (refine wpList_app1g Tryz.eltI rfl _ _ rfl w2 w.heap.size (.slice A5 q c5) q _ (by rfl) HOW.out (.int .i64 xv) (by rfl) (by rfl) HBW.out.size (by have := HQ5.out; omega) ?_); rintro A8 c8 w8 ho8 hb8 hg8
                               have HO2 : Hid (w8.ownsRow w.heap.size 2 1 (.slice A8 (q + 1) c8) (q + 1) (ints L0)) := Lib.hid (by rw [HL0.out]; simpa [ints] using ho8)
                               have HB2 : Hid (Below w.heap.size w w8) := Lib.hid (HBW.out.trans hb8)
                               have HQ2 : Hid (q + 1 ≤ 41 * i + 1 + 0) := Lib.hid (by have := HQ5.out; omega)
                               have hz8 : w8.heap[wr.heap.size]? = some (.cells #[.int .i64 0, .int .i64 xv, .int .i64 xl, .slice A' n' c'] 44 (0, 0)) := blk_ch HX2.out (ch_row hg8) (fun hf => by
                                 obtain ⟨es, h1⟩ := own_foP HOW.out hf
                                 exact blk_ne HX2.out h1 (by decide) rfl)
                               have z3 := blk_cell hz8 3 rfl
                               clear ho8 hb8 hg8 x0 x1 x3)
        clear hz8
        go_wp2_with fail
        clear z3
        go_loopw [3, 26] (fun v u wr2 => ∃ (j q2 : Nat) (A6 : Option Addr) (c6 : Nat), j ≤ n' ∧ u = .int .i64 (j : Int) ∧ v = .slice A6 q2 c6 ∧ Hid (wr2.ownsRow w.heap.size 2 1 (.slice A6 q2 c6) q2 (ints (L0 ++ varsE (xe.take j)))) ∧ Hid (q2 ≤ 41 * i + 1 + j) ∧ Hid (Below w.heap.size w wr2)) (fun _ u _ => n' - (intOf u).toNat)
        case atStart => exact ⟨0, _, _, _, Nat.zero_le _, rfl, rfl, Lib.hid (by have h := HO2.out; simpa [varsE] using h), HQ2, HB2⟩
        case round =>
          clear HO2 HQ2 HB2
          obtain ⟨j, q2, A6, c6, hj, rfl, rfl, HO6, HQ6, HB6⟩ := hrel
          have hn40 := HNL.out.2
          by_cases hlj : j < n'
          · have hlj' : (j : Int) < (n' : Int) := by omega
            obtain ⟨y, hy⟩ := get_some (xs := xe) (k := j) (by rw [HNL.out.1]; exact hlj)
            obtain ⟨b2, off2, hA2, hbl2, r0, r1⟩ := rdE (HRE.out.below HB6.out (Nat.le_refl _)) hy
            subst hA2
            have HST := Lib.hid (vE_step hy)
            obtain ⟨yk, yv⟩ := y
            simp only at r0 r1 HST
            have hj0 : (0 : Int) ≤ (j : Int) := by omega
            obtain ⟨w4, hw4⟩ : ∃ w4, w4 = wr.alloc (.cells #[.int .i64 yk, .int .i64 yv] 110) := ⟨_, rfl⟩
            have hb4 : Below wr.heap.size wr w4 := by rw [hw4]; exact below_new _ _
            have HX4 : Hid (w4.heap[wr.heap.size]? = some (.cells #[.int .i64 yk, .int .i64 yv] 110 (0, 0))) := Lib.hid (by rw [hw4]; exact box_new _ _ _)
            have HO7 := Lib.hid (own_below HO6.out hb4 (Nat.le_refl _))
            have HB7 : Hid (Below w.heap.size w w4) := Lib.hid (bqcP hb4 HB6.out)
            have HQB : Hid (q2 ≤ 1000000) := Lib.hid (by have := HQ6.out; have := HNN.out; omega)
            clear hy hb4
            go_upto_region 10 with fail
            rw [← hw4]
            clear hw4 r0 r1
            have x0 := blk_cell HX4.out 0 rfl
            have x1 := blk_cell HX4.out 1 rfl
            by_cases hyk : yk = 1
            · subst hyk
              go_wp2_with (at_builtin; go_must (refine wpList_app1g Tryz.eltI rfl _ _ rfl w4 w.heap.size (.slice A6 q2 c6) q2 _ (by rfl) HO7.out (.int .i64 yv) (by rfl) (by rfl) HB7.out.size (by have := HQB.out; omega) ?_); rintro A8 c8 w8 ho8 hb8 hg8
                           have HO8 : Hid (w8.ownsRow w.heap.size 2 1 (.slice A8 (q2 + 1) c8) (q2 + 1) (ints (L0 ++ varsE (xe.take (j + 1))))) := Lib.hid (by rw [HST.out]; simpa [ints] using ho8)
                           have HB8 : Hid (Below w.heap.size w w8) := Lib.hid (HB7.out.trans hb8)
                           clear ho8 hb8 hg8)
              go_roundw
              case rel => exact ⟨j + 1, _, A8, c8, by omega, by go_num, rfl, HO8, Lib.hid (by have := HQ6.out; omega), HB8⟩
              case measure => simp [intOf]; omega
            · have hyq : (yk == 1) = false := by rw [beq_eq_false_iff_ne]; exact hyk
              have HO8 : Hid (w4.ownsRow w.heap.size 2 1 (.slice A6 q2 c6) q2 (ints (L0 ++ varsE (xe.take (j + 1))))) := Lib.hid (by rw [HST.out, if_neg hyk]; simpa using HO7.out)
              go_wp2_with fail
              go_roundw
              case rel => exact ⟨j + 1, _, A6, c6, by omega, by go_num, rfl, HO8, Lib.hid (by have := HQ6.out; omega), HB7⟩
              case measure => simp [intOf]; omega
          · obtain rfl : j = n' := by omega
            have HO8 : Hid (wr.ownsRow w.heap.size 2 1 (.slice A6 q2 c6) q2 (ints (varsL (cs.take (i + 1))))) := Lib.hid (by
              have h := HO6.out
              rw [List.take_of_length_le (by rw [HNL.out.1]; omega)] at h
              rw [HSTC.out]
              exact h)
            go_wp2_with fail
            go_roundw
            case rel => exact ⟨i + 1, _, A6, c6, by omega, by go_num, rfl, HO8, Lib.hid (by have := HQ6.out; omega), HB6⟩
            case measure => simp [intOf]; omega
      · subst hk2
        clear hva
        have HO2 : Hid (w2.ownsRow w.heap.size 2 1 (.slice A5 q c5) q (ints L0)) := Lib.hid (by rw [HL0.out]; simpa using HOW.out)
        have HQ2 : Hid (q ≤ 41 * i + 1 + 0) := Lib.hid (by have := HQ5.out; omega)
        have HB2 := HBW
        go_wp2_with fail
        clear x0 x1 x3
        go_loopw [3, 26] (fun v u wr2 => ∃ (j q2 : Nat) (A6 : Option Addr) (c6 : Nat), j ≤ n' ∧ u = .int .i64 (j : Int) ∧ v = .slice A6 q2 c6 ∧ Hid (wr2.ownsRow w.heap.size 2 1 (.slice A6 q2 c6) q2 (ints (L0 ++ varsE (xe.take j)))) ∧ Hid (q2 ≤ 41 * i + 1 + j) ∧ Hid (Below w.heap.size w wr2)) (fun _ u _ => n' - (intOf u).toNat)
        case atStart => exact ⟨0, _, _, _, Nat.zero_le _, rfl, rfl, Lib.hid (by have h := HO2.out; simpa [varsE] using h), HQ2, HB2⟩
        case round =>
          clear HO2 HQ2 HB2
          obtain ⟨j, q2, A6, c6, hj, rfl, rfl, HO6, HQ6, HB6⟩ := hrel
          have hn40 := HNL.out.2
          by_cases hlj : j < n'
          · have hlj' : (j : Int) < (n' : Int) := by omega
            obtain ⟨y, hy⟩ := get_some (xs := xe) (k := j) (by rw [HNL.out.1]; exact hlj)
            obtain ⟨b2, off2, hA2, hbl2, r0, r1⟩ := rdE (HRE.out.below HB6.out (Nat.le_refl _)) hy
            subst hA2
            have HST := Lib.hid (vE_step hy)
            obtain ⟨yk, yv⟩ := y
            simp only at r0 r1 HST
            have hj0 : (0 : Int) ≤ (j : Int) := by omega
            obtain ⟨w4, hw4⟩ : ∃ w4, w4 = wr.alloc (.cells #[.int .i64 yk, .int .i64 yv] 110) := ⟨_, rfl⟩
            have hb4 : Below wr.heap.size wr w4 := by rw [hw4]; exact below_new _ _
            have HX4 : Hid (w4.heap[wr.heap.size]? = some (.cells #[.int .i64 yk, .int .i64 yv] 110 (0, 0))) := Lib.hid (by rw [hw4]; exact box_new _ _ _)
            have HO7 := Lib.hid (own_below HO6.out hb4 (Nat.le_refl _))
            have HB7 : Hid (Below w.heap.size w w4) := Lib.hid (bqcP hb4 HB6.out)
            have HQB : Hid (q2 ≤ 1000000) := Lib.hid (by have := HQ6.out; have := HNN.out; omega)
            clear hy hb4
            go_upto_region 10 with fail
            rw [← hw4]
            clear hw4 r0 r1
            have x0 := blk_cell HX4.out 0 rfl
            have x1 := blk_cell HX4.out 1 rfl
            by_cases hyk : yk = 1
            · subst hyk
              go_wp2_with (at_builtin; go_must (refine wpList_app1g Tryz.eltI rfl _ _ rfl w4 w.heap.size (.slice A6 q2 c6) q2 _ (by rfl) HO7.out (.int .i64 yv) (by rfl) (by rfl) HB7.out.size (by have := HQB.out; omega) ?_); rintro A8 c8 w8 ho8 hb8 hg8
                           have HO8 : Hid (w8.ownsRow w.heap.size 2 1 (.slice A8 (q2 + 1) c8) (q2 + 1) (ints (L0 ++ varsE (xe.take (j + 1))))) := Lib.hid (by rw [HST.out]; simpa [ints] using ho8)
                           have HB8 : Hid (Below w.heap.size w w8) := Lib.hid (HB7.out.trans hb8)
                           clear ho8 hb8 hg8)
              go_roundw
              case rel => exact ⟨j + 1, _, A8, c8, by omega, by go_num, rfl, HO8, Lib.hid (by have := HQ6.out; omega), HB8⟩
              case measure => simp [intOf]; omega
            · have hyq : (yk == 1) = false := by rw [beq_eq_false_iff_ne]; exact hyk
              have HO8 : Hid (w4.ownsRow w.heap.size 2 1 (.slice A6 q2 c6) q2 (ints (L0 ++ varsE (xe.take (j + 1))))) := Lib.hid (by rw [HST.out, if_neg hyk]; simpa using HO7.out)
              go_wp2_with fail
              go_roundw
              case rel => exact ⟨j + 1, _, A6, c6, by omega, by go_num, rfl, HO8, Lib.hid (by have := HQ6.out; omega), HB7⟩
              case measure => simp [intOf]; omega
          · obtain rfl : j = n' := by omega
            have HO8 : Hid (wr.ownsRow w.heap.size 2 1 (.slice A6 q2 c6) q2 (ints (varsL (cs.take (i + 1))))) := Lib.hid (by
              have h := HO6.out
              rw [List.take_of_length_le (by rw [HNL.out.1]; omega)] at h
              rw [HSTC.out]
              exact h)
            go_wp2_with fail
            go_roundw
            case rel => exact ⟨i + 1, _, A6, c6, by omega, by go_num, rfl, HO8, Lib.hid (by have := HQ6.out; omega), HB6⟩
            case measure => simp [intOf]; omega
    · obtain rfl : i = n := by omega
      have h1 := HO5.out
      rw [List.take_of_length_le (by rw [HL.out]; omega)] at h1
      have HO6 := Lib.hid h1
      have hq0 : 0 < q := by
        have h2 := h1.1
        have h3 := HV.out
        cases hvl : varsL cs with
        | nil => exact absurd hvl h3
        | cons a r => rw [hvl] at h2; simp at h2; omega
      have HQB : Hid (q ≤ 1000000 ∧ 0 < q) := Lib.hid ⟨by have := HQ5.out; have := HNN.out; omega, hq0⟩
      have HSR := Lib.hid (sortI_any wr w.heap.size A5 q c5 _ HO6.out HQB.out.1)
      clear h1 hq0
      go_wp2_with (first
        | (go_at_call 129
           refine HCP.out.mono ?_
           rintro e w7 ⟨m, ys, rfl, hm, ho7, hmem, hc7⟩
           have HB7 : Hid (Below w.heap.size w w7) := Lib.hid (below_ch HB6.out hc7 (fun q hq => (HO7.out.lt q hq).1) HB6.out.size)
           have HR7 := Lib.hid ho7
           have HMM : Hid (m ≤ 1000000) := Lib.hid (by have := HQB.out; omega)
           have HME : Hid (∀ x, x ∈ ys ↔ x ∈ varsL cs) := Lib.hid (fun x => by rw [hmem x, List.mem_mergeSort])
           clear hm ho7 hmem hc7)
        | (go_at_call 128
           refine HSR.out.mono ?_
           rintro e w6 ⟨rfl, ho6, hc6⟩
           have HB6 : Hid (Below w.heap.size w w6) := Lib.hid (below_ch HB5.out hc6 (fun q hq => (HO6.out.lt q hq).1) HB5.out.size)
           have HO7 := Lib.hid ho6
           have HCP := Lib.hid (compactI_any w6 w.heap.size A5 q c5 _ ho6 HQB.out.1 HQB.out.2)
           clear ho6 hc6))
      go_ret
      exact ⟨A5, m, c5, ys, rfl, HR7.out, HMM.out, HME.out, HB7.out⟩
end Go.Proofs.YtadmbphefpfbmaaGreatDoor
