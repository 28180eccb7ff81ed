/- A step of a program of registers (program). -/
import Derived.Test.YtgnboemmlohahaaRrM
import Derived.Test.YtgnboemmlohahaaSmw
namespace Go.Proofs.Ytgnboemmlohahaa
open Go.RowKit
set_option linter.unusedVariables false
set_option linter.unusedSimpArgs false
attribute [local go_sem ↓] Go.wp_at_zero Go.wp_at_succ
/-- A store in a variable's box. -/
structure SB (w : World) (lo gx gc c : Nat) (x : Sto) : Prop where
  box : w.heap[gx]? = some (.cells #[.int .i64 x.at_, .slice (some ⟨gc, 0, none⟩) 24 c] 31 (0, 0))
  row : w.ownsRow lo 2 1 (.slice (some ⟨gc, 0, none⟩) 24 c) 24 (ints x.cs)
  l1 : lo ≤ gx
theorem SB.below {w w' : World} {lo gx gc c : Nat} {x : Sto} (h : SB w lo gx gc c x) (hb : Below w.heap.size w w') : SB w' lo gx gc c x := ⟨blk_bel h.box hb, ownN_below h.row hb (Nat.le_refl _), h.l1⟩
theorem SB.gc {w : World} {lo gx gc c : Nat} {x : Sto} (h : SB w lo gx gc c x) : (lo ≤ gc ∧ gc < w.heap.size) ∧ gc ≠ gx := by
  have h1 := h.row.lt gc rfl
  obtain ⟨cs, h2⟩ := own_fo h.row (k := gc) rfl
  exact ⟨h1, blk_ne h2 h.box (by decide)⟩
theorem SB.set {w w1 w2 : World} {lo gx gc c r : Nat} {x : Sto} {v t : Int} (h : SB w lo gx gc c x) (h1 : w1 = w.setCell ⟨gc, r, none⟩ (.int .i64 v)) (h2 : w2 = w1.setCell ⟨gx, 0, none⟩ (.int .i64 t)) : SB w2 lo gx gc c ⟨t, x.cs.set r v⟩ ∧ Ch (fun q => q = gx ∨ q = gc) w w2 := by
  obtain ⟨hg, hne⟩ := h.gc
  have c1 : Ch (· = gc) w w1 := by rw [h1]; exact ch_set w gc r _
  have c2 : Ch (· = gx) w1 w2 := by rw [h2]; exact ch_set w1 gx 0 _
  have b1 := blk_ch h.box c1 (fun e => hne e.symm)
  have o1 := own_put h.row r (.int .i64 v)
  rw [← h1] at o1
  refine ⟨⟨?_, ?_, h.l1⟩, (c1.mono (fun q e => .inr e)).trans (c2.mono (fun q e => .inl e))⟩
  · have b2 := blk_set b1 0 (.int .i64 t)
    rw [← h2] at b2
    simpa using b2
  · have o2 := own_ch o1 c2 (fun q hq e => by
      have e1 : gc = q := by simpa [Fo, Value.ownBlock] using hq
      have e2 : q = gx := e
      exact hne (e1.trans e2))
    simpa only [ints, List.map_set] using o2
theorem SB.go {w w2 : World} {lo gx gc c : Nat} {x : Sto} {t : Int} (h : SB w lo gx gc c x) (h2 : w2 = w.setCell ⟨gx, 0, none⟩ (.int .i64 t)) : SB w2 lo gx gc c ⟨t, x.cs⟩ ∧ Ch (fun q => q = gx ∨ q = gc) w w2 := by
  obtain ⟨hg, hne⟩ := h.gc
  have c2 : Ch (· = gx) w w2 := by rw [h2]; exact ch_set w gx 0 _
  refine ⟨⟨?_, ?_, h.l1⟩, c2.mono (fun q e => .inl e)⟩
  · have b2 := blk_set h.box 0 (.int .i64 t)
    rw [← h2] at b2
    simpa using b2
  · exact own_ch h.row c2 (fun q hq e => by
      have e1 : gc = q := by simpa [Fo, Value.ownBlock] using hq
      have e2 : q = gx := e
      exact hne (e1.trans e2))
set_option maxHeartbeats 4000000 in
set_option maxRecDepth 100000 in
theorem stepStore_any (w0 w : World) (hb0 : Below w0.heap.size w0 w) (A : Option Addr) (n cp : Nat) (p : List Ins) (hr : Rd w0 A (n * 4) (ints (flatI p))) (hok : okProg p = true) (gx gc c : Nat) (x : Sto) (hs : SB w w0.heap.size gx gc c x) (b : Int) (hg : GoodS p.length b x) (hb : 0 ≤ b ∧ b ≤ 999998) (hx : x.at_ ≠ (p.length : Int)) :
    Calls Try.prog 40 #[.slice A n cp, .pointer (some ⟨gx, 0, none⟩)] w (fun e w' => e = .returned (.bool true) ∧ SB w' w0.heap.size gx gc c (stepS p x) ∧ Ch (fun q => q = gx ∨ q = gc) w w') := by
  obtain ⟨at_, cs⟩ := x
  have h1 := hg.lo; have h2 := hg.hi
  simp only at h1 h2 hx
  obtain ⟨k, rfl⟩ : ∃ k : Nat, at_ = (k : Int) := ⟨at_.toNat, by omega⟩
  have hpl : p.length = n := by have h3 := hr.1; simp only [List.length_map, flatI_len] at h3; omega
  obtain ⟨⟨kd, rg, th, el⟩, hi⟩ : ∃ i, p[k]? = some i := ⟨_, List.getElem?_eq_getElem (by omega)⟩
  have hok2 := hok
  simp only [okProg, Bool.and_eq_true] at hok2
  obtain ⟨k1, k2, k3⟩ := okIns_all (List.all_eq_true.1 hok2.1 _ (List.mem_of_getElem? hi))
  simp only at k1 k2 k3
  obtain ⟨r, rfl⟩ : ∃ r : Nat, rg = (r : Int) := ⟨rg.toNat, by omega⟩
  obtain ⟨v, hv⟩ := get_some (xs := cs) (k := r) (by have := hg.len; simp only at this; omega)
  have hvb := hg.bd v (List.mem_of_getElem? hv)
  have hgd : cs.getD r 0 = v := by rw [List.getD_eq_getElem?_getD, hv]; rfl
  have HST : Hid (stepS p ⟨(k : Int), cs⟩ = if kd = 0 then ⟨th, cs.set r (v + 1)⟩ else if 0 < v then ⟨th, cs.set r (v - 1)⟩ else ⟨el, cs⟩) := Lib.hid (by
    unfold stepS
    simp only [Int.toNat_natCast, hi, hgd])
  obtain ⟨q0r, q1r, q2r, q3r⟩ := flatI_get hi
  obtain ⟨bR, oR, rfl, hbR, hcR⟩ := (hr.below hb0 (Nat.le_refl _)).2 (by omega)
  have p0 := hcR _ _ (ints_get q0r)
  have p1 := hcR _ _ (ints_get q1r)
  have p2 := hcR _ _ (ints_get q2r)
  have p3 := hcR _ _ (ints_get q3r)
  simp only [← Nat.add_assoc] at p0 p1 p2 p3
  have x0 := blk_cell hs.box 0 rfl
  have x1 := blk_cell hs.box 1 rfl
  have i1 : (0 : Int) ≤ (k : Int) := by omega
  have i2 : (k : Int) < (n : Int) := by omega
  have i3 : (0 : Int) ≤ (r : Int) := by omega
  have i4 : (r : Int) < (24 : Int) := by omega
  have i5 : r < 24 := by omega
  obtain ⟨w3, hw3⟩ : ∃ w3, w3 = w.alloc (.cells #[.int .i64 kd, .int .i64 (r : Int), .int .i64 th, .int .i64 el] 49) := ⟨_, rfl⟩
  have hb3 : Below w.heap.size w w3 := by rw [hw3]; exact below_new _ _
  have hx5 : w3.heap[w.heap.size]? = some (.cells #[.int .i64 kd, .int .i64 (r : Int), .int .i64 th, .int .i64 el] 49 (0, 0)) := by rw [hw3]; exact box_new w _ _
  have HX5 := Lib.hid hx5; have HB3 := Lib.hid hb3
  have HS3 := Lib.hid (hs.below hb3)
  have HK3 := Lib.hid k3
  have HVB := Lib.hid hvb
  have HVR : Hid (cs[r]? = some v) := Lib.hid hv
  clear hr hok hs hg hx hpl hi hok2 k1 k2 k3 hv hvb hgd q0r q1r q2r q3r hcR hbR hb3 hx5 h1 h2 hb0
  go_enter Try.func40, Try.ntmps40
  go_upto_region 2 with fail
  rw [← hw3]
  clear hw3 p0 p1 p2 p3 x0 x1
  have t0 := blk_cell HX5.out 0 rfl
  have t1 := blk_cell HX5.out 1 rfl
  have t2 := blk_cell HX5.out 2 rfl
  have t3 := blk_cell HX5.out 3 rfl
  have x0 := blk_cell HS3.out.box 0 rfl
  have x1 := blk_cell HS3.out.box 1 rfl
  have g0 := blk_free HS3.out.box 0
  go_wp2_with fail
  go_quiet (fail)
  obtain ⟨w4, hw4⟩ : ∃ w4, w4 = w3.drewN nq := ⟨_, rfl⟩
  have hb4 : Below w3.heap.size w3 w4 := by rw [hw4]; exact below_drewN (Below.refl _ _)
  rw [← hw4]
  clear hw4 t0 t1 t2 t3 x0 x1 g0
  have HS4 := Lib.hid (HS3.out.below hb4)
  have HX4 := Lib.hid (blk_bel HX5.out hb4)
  have HB4 : Hid (Below w.heap.size w w4) := Lib.hid (bqc hb4 HB3.out)
  have HNX : Hid (¬ w.heap.size = gc) := Lib.hid (fun e => by
    obtain ⟨ds, h5⟩ := own_fo HS4.out.row (k := gc) rfl
    exact blk_ne HX4.out h5 (by decide) e)
  have HRL : Hid (r < cs.length) := Lib.hid (List.getElem?_eq_some_iff.1 HVR.out).1
  clear hb4
  have t0 := blk_cell HX4.out 0 rfl
  have t1 := blk_cell HX4.out 1 rfl
  have t2 := blk_cell HX4.out 2 rfl
  have t3 := blk_cell HX4.out 3 rfl
  have x0 := blk_cell HS4.out.box 0 rfl
  have f0 := blk_free HS4.out.box 0
  obtain ⟨g', hg', -, -, hsc, hsf⟩ := own_get HS4.out.row (k := r) (u := .int .i64 v) (by simp only [ints, List.getElem?_map, HVR.out]; rfl)
  injection hg' with hg'
  injection hg' with hg'
  subst hg'
  by_cases hk : kd = 0
  · as_aux_lemma =>
    subst hk
    have hwv : IntKind.i64.wrap (v + 1) = v + 1 := IntWalk.i64_in _ (by have := HVB.out; omega)
    have hle : v + 1 ≤ 1000000 := by have := HVB.out; omega
    obtain ⟨w5, hw5⟩ : ∃ w5, w5 = w4.setCell ⟨gc, r, none⟩ (.int .i64 (v + 1)) := ⟨_, rfl⟩
    obtain ⟨w6, hw6⟩ : ∃ w6, w6 = w5.setCell ⟨gx, 0, none⟩ (.int .i64 th) := ⟨_, rfl⟩
    obtain ⟨hsb, hch⟩ := HS4.out.set hw5 hw6
    have HSB := Lib.hid hsb
    have HCH : Hid (Ch (fun q => q = gx ∨ q = gc) w w6) := Lib.hid ((ch_below HB4.out).trans hch)
    have hx5 := blk_cell (blk_ch HS4.out.box (show Ch (· = gc) w4 w5 by rw [hw5]; exact ch_set w4 gc r _) (fun e => HS4.out.gc.2 e.symm)) 0 rfl
    have hf5 := blk_free (blk_ch HS4.out.box (show Ch (· = gc) w4 w5 by rw [hw5]; exact ch_set w4 gc r _) (fun e => HS4.out.gc.2 e.symm)) 0
    have ht5 := blk_cell (blk_ch HX4.out (show Ch (· = gc) w4 w5 by rw [hw5]; exact ch_set w4 gc r _) HNX.out) 2 rfl
    obtain ⟨g6, hg6, -, -, hc6, hf6⟩ := own_get hsb.row (k := r) (u := .int .i64 (v + 1)) (by simp only [ints, List.getElem?_map, List.getElem?_set_self HRL.out]; rfl)
    injection hg6 with hg6
    injection hg6 with hg6
    subst hg6
    clear hsb hch
    go_upto_region 6 with fail
    rw [← hw5]
    clear hw5
    go_upto_region 10 with fail
    rw [← hw6]
    clear hw6
    go_wp2_with fail
    go_ret
    refine ⟨rfl, ?_, HCH.out⟩
    rw [HST.out]
    first | rw [if_pos rfl] | rw [if_pos trivial]
    exact HSB.out
  · as_aux_lemma =>
    have hkd : (kd == 0) = false := by rw [beq_eq_false_iff_ne]; exact hk
    have HKD := Lib.hid hk
    clear hk
    by_cases hv0 : 0 < v
    · as_aux_lemma =>
      have hwv : IntKind.i64.wrap (v - 1) = v - 1 := IntWalk.i64_in _ (by have := HVB.out; omega)
      have hle : v - 1 ≤ 1000000 := by have := HVB.out; omega
      obtain ⟨w5, hw5⟩ : ∃ w5, w5 = w4.setCell ⟨gc, r, none⟩ (.int .i64 (v - 1)) := ⟨_, rfl⟩
      obtain ⟨w6, hw6⟩ : ∃ w6, w6 = w5.setCell ⟨gx, 0, none⟩ (.int .i64 th) := ⟨_, rfl⟩
      obtain ⟨hsb, hch⟩ := HS4.out.set hw5 hw6
      have HSB := Lib.hid hsb
      have HCH : Hid (Ch (fun q => q = gx ∨ q = gc) w w6) := Lib.hid ((ch_below HB4.out).trans hch)
      have hx5 := blk_cell (blk_ch HS4.out.box (show Ch (· = gc) w4 w5 by rw [hw5]; exact ch_set w4 gc r _) (fun e => HS4.out.gc.2 e.symm)) 0 rfl
      have hf5 := blk_free (blk_ch HS4.out.box (show Ch (· = gc) w4 w5 by rw [hw5]; exact ch_set w4 gc r _) (fun e => HS4.out.gc.2 e.symm)) 0
      have ht5 := blk_cell (blk_ch HX4.out (show Ch (· = gc) w4 w5 by rw [hw5]; exact ch_set w4 gc r _) HNX.out) 2 rfl
      obtain ⟨g6, hg6, -, -, hc6, hf6⟩ := own_get hsb.row (k := r) (u := .int .i64 (v - 1)) (by simp only [ints, List.getElem?_map, List.getElem?_set_self HRL.out]; rfl)
      injection hg6 with hg6
      injection hg6 with hg6
      subst hg6
      clear hsb hch
      go_upto_region 9 with fail
      rw [← hw5]
      clear hw5
      go_upto_region 10 with fail
      rw [← hw6]
      clear hw6
      go_wp2_with fail
      go_ret
      refine ⟨rfl, ?_, HCH.out⟩
      rw [HST.out]
      rw [if_neg HKD.out, if_pos hv0]
      exact HSB.out
    · as_aux_lemma =>
      have HV0 : Hid (¬ 0 < v) := Lib.hid hv0
      obtain ⟨w6, hw6⟩ : ∃ w6, w6 = w4.setCell ⟨gx, 0, none⟩ (.int .i64 el) := ⟨_, rfl⟩
      obtain ⟨hsb, hch⟩ := HS4.out.go hw6
      have HSB := Lib.hid hsb
      have HCH : Hid (Ch (fun q => q = gx ∨ q = gc) w w6) := Lib.hid ((ch_below HB4.out).trans hch)
      have hle : v ≤ 1000000 := by have := HVB.out; omega
      obtain ⟨g6, hg6, -, -, hc6, hf6⟩ := own_get hsb.row (k := r) (u := .int .i64 v) (by simp only [ints, List.getElem?_map, HVR.out]; rfl)
      injection hg6 with hg6
      injection hg6 with hg6
      subst hg6
      clear hsb hch
      go_upto_region 10 with fail
      rw [← hw6]
      clear hw6
      go_wp2_with fail
      go_ret
      refine ⟨rfl, ?_, HCH.out⟩
      rw [HST.out, if_neg HKD.out]
      have hv1 := HV0.out
      rw [if_neg (show ¬ 0 < v by omega)]
      exact HSB.out
end Go.Proofs.Ytgnboemmlohahaa
