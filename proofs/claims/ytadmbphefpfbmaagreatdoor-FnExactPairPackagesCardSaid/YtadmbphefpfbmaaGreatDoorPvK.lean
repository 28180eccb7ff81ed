/- A program with one variable (program): packed expressions of the call's own, copies of rows of slices. -/
import Derived.Test.YtadmbphefpfbmaaGreatDoorPvL
import Derived.Test.YtadmbphefpfbmaaGreatDoorPvV
namespace Go.Proofs.YtadmbphefpfbmaaGreatDoor
open Go.RowKit
set_option linter.unusedVariables false
set_option linter.unusedSimpArgs false
attribute [local go_sem ↓] Go.wp_at_zero Go.wp_at_succ
set_option maxHeartbeats 8000000 in
set_option maxRecDepth 100000 in
theorem packed2_any (e f : List El) (r : List (List El)) (w : World) (A : Option Addr) (n c : Nat) (hr : RdY w A n (e :: f :: r)) (hc : n ≤ c) (h1 : 1 ≤ n) (hs : sumL (e :: f :: r) + n ≤ 1000000) : Calls Tryz.prog 89 #[.slice A n c] w (RetE w (packE (e :: f :: r))) := by
  have hl := hr.len
  simp only [List.length_cons] at hl
  obtain ⟨b, off, A', m, c', rfl, hb, q0, k1, k2, k3⟩ := hr.at_ (k := 0) rfl
  rw [Nat.add_zero] at q0
  have hsl : sumL (f :: r) + (n - 1) ≤ 1000000 := by simp only [sumL, List.map_cons, List.sum_cons] at hs ⊢; omega
  have hpl := packE_len (e :: f :: r)
  have hpl2 : e.length + (packE (f :: r)).length + 1 ≤ 1000000 := by have := packE_len (f :: r); simp only [sumL, List.map_cons, List.sum_cons, List.length_cons] at hs this ⊢; omega
  have hme := rdE_len k3
  have HIH := Lib.hid (fun (wx : World) (hx : RdY wx (some ⟨b, off + 1, none⟩) (n - 1) (f :: r)) => packed_any (f :: r) wx (some ⟨b, off + 1, none⟩) (n - 1) (c - 1) hx (by omega) (by omega) hsl)
  have HRT := Lib.hid hr.tail
  have HK := Lib.hid (And.intro k1 (And.intro k2 k3))
  have HPL := Lib.hid hpl2
  have HME := Lib.hid hme
  have hcut := fun (w0 : World) => run_cut (P := Tryz.prog) (t := 131) (e := 42) (sz := 1) Tryz.underlying131 (by kernel_rfl) w0 b off n c 1 1 .i64 rfl (by omega) (by omega)
  have hn1 : ¬ (n : Int) = 1 := by omega
  have hn2 : ((n : Int) == 1) = false := by rw [beq_eq_false_iff_ne]; exact hn1
  have hn3 : (0 : Int) < (n : Int) := by omega
  have hn4 : 0 < n := by omega
  clear hr hc hs hl hsl hpl hpl2 k1 k2 k3 hme
  go_enter Tryz.func89, Tryz.ntmps89
  go_wp2_with fail
  have HBL := Lib.hid (below_new w (.cells #[.int .i64 2, .int .i64 0] 110))
  have q0a : (w.alloc (.cells #[.int .i64 2, .int .i64 0] 110)).cell? ⟨b, off, none⟩ = some (.slice A' m c') := (HBL.out.cell (p := ⟨b, off, none⟩) hb).trans q0
  go_region_held3 (fun w' => w'.cell? ⟨b, off, none⟩ = some (.slice A' m c')) (first | exact q0 | exact q0a | exact q0b | exact q0c | exact q0d | exact q0e) (first
    | (go_at_call 89
       refine (HIH.out _ (by first | exact HRT.out.below HBL.out (Nat.le_refl _) | exact (HRT.out.below HBL.out (Nat.le_refl _)).drew)).mono ?_
       rintro e2 w2 ⟨A2, m2, c2, rfl, g1, g2, g3, hb2⟩
       (try replace hb2 := und1 hb2)
       have HB3 : Hid (Below w.heap.size w w2) := Lib.hid (bqcP hb2 HBL.out)
       have q0b := (HB3.out.cell (p := ⟨b, off, none⟩) hb).trans q0
       have hlt : Rd w2 (some ⟨w.heap.size, 0, none⟩) (1 * 2) (ints (eNums [(2, 0)])) := (ownN_rd (lit_elG w 2 0)).below hb2 (Nat.le_refl _)
       have hg3 := g3
       have hx : RdX (w2.alloc (.cells #[.slice (some ⟨w.heap.size, 0, none⟩) 1 1, .slice A' m c', .slice A2 m2 c2] 42)) (some ⟨w2.heap.size, 0, none⟩) 3 [[(2, 0)], e, packE (f :: r)] := by
         refine ⟨[.slice (some ⟨w.heap.size, 0, none⟩) 1 1, .slice A' m c', .slice A2 m2 c2], by have h := own_rd (own_lit w2 #[.slice (some ⟨w.heap.size, 0, none⟩) 1 1, .slice A' m c', .slice A2 m2 c2] 3 42 rfl (by omega)); simpa using h, rfl, ?_⟩
         intro j v ys hj hy
         match j, hj, hy with
         | 0, hj, hy => injection hj with hj; injection hy with hy; subst hj hy; exact ⟨_, _, _, rfl, hlt.alloc _⟩
         | 1, hj, hy => injection hj with hj; injection hy with hy; subst hj hy; exact ⟨_, _, _, rfl, (HK.out.2.2.below HB3.out (Nat.le_refl _)).alloc _⟩
         | 2, hj, hy => injection hj with hj; injection hy with hy; subst hj hy; exact ⟨_, _, _, rfl, hg3.alloc _⟩
         | j + 3, hj, hy => simp at hj
       have HX := Lib.hid hx
       have HB4 : Hid (Below w.heap.size w (w2.alloc (.cells #[.slice (some ⟨w.heap.size, 0, none⟩) 1 1, .slice A' m c', .slice A2 m2 c2] 42))) := Lib.hid (bqcP (below_new w2 _) HB3.out)
       have q0c := (HB4.out.cell (p := ⟨b, off, none⟩) hb).trans q0
       clear hx hlt g1 g2 g3 hg3 hb2)
    | (go_at_call 89
       refine (HIH.out _ (by first | exact HRT.out | exact HRT.out.drew)).mono ?_
       rintro e2 w2 ⟨A2, m2, c2, rfl, g1, g2, g3, hb2⟩
       (try replace hb2 := und1 hb2)
       have hb3 := below_new w2 (.cells #[.int .i64 2, .int .i64 0] 110)
       have HB2 : Hid (Below w.heap.size w w2) := Lib.hid hb2
       have HB3 : Hid (Below w.heap.size w (w2.alloc (.cells #[.int .i64 2, .int .i64 0] 110))) := Lib.hid (bqcP hb3 HB2.out)
       have q0b := (HB2.out.cell (p := ⟨b, off, none⟩) hb).trans q0
       have q0e := (HB3.out.cell (p := ⟨b, off, none⟩) hb).trans q0
       have hlt : Rd (w2.alloc (.cells #[.int .i64 2, .int .i64 0] 110)) (some ⟨w2.heap.size, 0, none⟩) (1 * 2) (ints (eNums [(2, 0)])) := ownN_rd (lit_elG w2 2 0)
       have hg3 := g3.below hb3 (Nat.le_refl _)
       have hx : RdX ((w2.alloc (.cells #[.int .i64 2, .int .i64 0] 110)).alloc (.cells #[.slice (some ⟨w2.heap.size, 0, none⟩) 1 1, .slice A' m c', .slice A2 m2 c2] 42)) (some ⟨w2.heap.size + 1, 0, none⟩) 3 [[(2, 0)], e, packE (f :: r)] := by
         refine ⟨[.slice (some ⟨w2.heap.size, 0, none⟩) 1 1, .slice A' m c', .slice A2 m2 c2], by have h := own_rd (own_lit (w2.alloc (.cells #[.int .i64 2, .int .i64 0] 110)) #[.slice (some ⟨w2.heap.size, 0, none⟩) 1 1, .slice A' m c', .slice A2 m2 c2] 3 42 rfl (by omega)); simpa using h, rfl, ?_⟩
         intro j v ys hj hy
         match j, hj, hy with
         | 0, hj, hy => injection hj with hj; injection hy with hy; subst hj hy; exact ⟨_, _, _, rfl, hlt.alloc _⟩
         | 1, hj, hy => injection hj with hj; injection hy with hy; subst hj hy; exact ⟨_, _, _, rfl, (HK.out.2.2.below HB3.out (Nat.le_refl _)).alloc _⟩
         | 2, hj, hy => injection hj with hj; injection hy with hy; subst hj hy; exact ⟨_, _, _, rfl, hg3.alloc _⟩
         | j + 3, hj, hy => simp at hj
       have HX := Lib.hid hx
       have HB4 : Hid (Below w.heap.size w ((w2.alloc (.cells #[.int .i64 2, .int .i64 0] 110)).alloc (.cells #[.slice (some ⟨w2.heap.size, 0, none⟩) 1 1, .slice A' m c', .slice A2 m2 c2] 42))) := Lib.hid (bqcP (below_new (w2.alloc (.cells #[.int .i64 2, .int .i64 0] 110)) _) HB3.out)
       have q0c := (HB4.out.cell (p := ⟨b, off, none⟩) hb).trans q0
       clear hx hlt g1 g2 g3 hg3 hb2 hb3)
    | (go_at_call 133
       refine (concatE_any _ _ 3 3 _ (by exact HX.out) (by omega) (by have := HPL.out; simp [totX]; omega)).mono ?_
       rintro e3 w5 ⟨A5, n5, c5, rfl, ho5, hb5⟩
       have HO5 := Lib.hid ho5
       have HB5 : Hid (Below w.heap.size w w5) := Lib.hid (bqcP hb5 HB4.out)
       have q0d := (HB5.out.cell (p := ⟨b, off, none⟩) hb).trans q0
       clear ho5 hb5))
  all_goals
    go_wp2_with fail
    go_ret
    have h4 := HO5.out
    have e0 : ([[(2, 0)], e, packE (f :: r)] : List (List El)).flatten = packE (e :: f :: r) := by simp [packE]
    rw [e0] at h4
    exact ⟨A5, n5, c5, rfl, ownN_base h4 HB4.out.size, HB5.out⟩
def placesE (N : Nat) : List (List El) := (List.range N).map (fun k => placeE k N)
theorem places_len (N : Nat) : (placesE N).length = N := by simp [placesE]
theorem places_step {N k : Nat} (h : k < N) : (placesE N).take (k + 1) = (placesE N).take k ++ [placeE k N] := by
  have e : (placesE N)[k]? = some (placeE k N) := by simp only [placesE, List.getElem?_map, List.getElem?_range h, Option.map_some]
  rw [List.take_add_one, e]; rfl
theorem row_set {N v : Nat} {x : Cmd} (hv : x.v = (v : Int)) (h : v < N) : (placesE N).set v (moveE N x.e) = rowE N x := by
  apply List.ext_getElem?
  intro k
  rw [List.getElem?_set]
  by_cases hk : k < N
  · simp only [rowE, placesE, List.getElem?_map, List.getElem?_range hk, Option.map_some, List.length_map, List.length_range]
    by_cases hkv : v = k
    · subst hkv
      rw [if_pos rfl, if_pos hk, if_pos (by rw [hv])]
    · rw [if_neg hkv, if_neg (by rw [hv]; omega)]
  · have h1 : (rowE N x)[k]? = none := List.getElem?_eq_none (by rw [rowE_len]; omega)
    have h2 : (placesE N)[k]? = none := List.getElem?_eq_none (by rw [places_len]; omega)
    rw [h1, h2, if_neg (by omega)]
theorem start_row (N : Nat) : (startE N).length = N := startE_len N
end Go.Proofs.YtadmbphefpfbmaaGreatDoor
