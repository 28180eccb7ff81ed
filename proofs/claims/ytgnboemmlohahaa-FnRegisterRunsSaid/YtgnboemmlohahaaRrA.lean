/- Programs of registers one after the other (program). -/
import Derived.Test.YtgnboemmlohahaaRrV
namespace Go.Proofs.Ytgnboemmlohahaa
open Go.RowKit
set_option linter.unusedVariables false
set_option linter.unusedSimpArgs false
attribute [local go_sem ↓] Go.wp_at_zero Go.wp_at_succ
/-- An instruction with new targets. -/
def redT (n h a x : Int) : Int := if x = n then h else x + a
def redI (n h a : Int) (x : Ins) : Ins := ⟨x.kind, x.reg, redT n h a x.thn, if x.kind = 1 then redT n h a x.els else x.els⟩
theorem redT_add {n a x : Int} : redT n (n + a) a x = x + a := by unfold redT; split <;> omega
theorem redI_sh (n a : Int) : redI n (n + a) a = shI a := by
  funext x; simp only [redI, shI, redT_add]
theorem redI_id (n : Int) (ps : List Ins) : ps.map (redI n n 0) = ps := by
  have e : redI n n 0 = id := by
    funext x
    have h : ∀ y, redT n n 0 y = y := fun y => by unfold redT; split <;> omega
    simp only [redI, h]
    cases x; simp
  rw [e]; simp
theorem flatI_set2 {L R : List Ins} {x : Ins} {k : Nat} {v : Int} (hk : L.length = k) : (ints (flatI (L ++ x :: R))).set (k * 4 + 2) (.int .i64 v) = ints (flatI (L ++ ⟨x.kind, x.reg, v, x.els⟩ :: R)) := by
  have hl : ((flatI L).map (Value.int .i64)).length = k * 4 := by rw [List.length_map, flatI_len, hk]
  simp only [flatI_app, flatI, ints, List.map_append, List.map_cons]
  rw [List.set_append_right _ _ (by omega), hl, show k * 4 + 2 - k * 4 = 2 by omega]
  rfl
theorem flatI_set3 {L R : List Ins} {x : Ins} {k : Nat} {v : Int} (hk : L.length = k) : (ints (flatI (L ++ x :: R))).set (k * 4 + 3) (.int .i64 v) = ints (flatI (L ++ ⟨x.kind, x.reg, x.thn, v⟩ :: R)) := by
  have hl : ((flatI L).map (Value.int .i64)).length = k * 4 := by rw [List.length_map, flatI_len, hk]
  simp only [flatI_app, flatI, ints, List.map_append, List.map_cons]
  rw [List.set_append_right _ _ (by omega), hl, show k * 4 + 3 - k * 4 = 3 by omega]
  rfl
theorem flatI_at {L R : List Ins} {x : Ins} {k : Nat} (hk : L.length = k) : (flatI (L ++ x :: R))[k * 4]? = some x.kind ∧ (flatI (L ++ x :: R))[k * 4 + 1]? = some x.reg ∧ (flatI (L ++ x :: R))[k * 4 + 2]? = some x.thn ∧ (flatI (L ++ x :: R))[k * 4 + 3]? = some x.els :=
  flatI_get (by rw [List.getElem?_append_right (by omega)]; simp [hk])
theorem map_stepI {ps : List Ins} {x : Ins} {k : Nat} (f : Ins → Ins) (hx : ps[k]? = some x) : (ps.take (k + 1)).map f ++ ps.drop (k + 1) = (ps.take k).map f ++ f x :: ps.drop (k + 1) := by
  rw [List.take_add_one, hx]; simp
theorem map_headI {ps : List Ins} {x : Ins} {k : Nat} (f : Ins → Ins) (hx : ps[k]? = some x) : (ps.take k).map f ++ ps.drop k = (ps.take k).map f ++ x :: ps.drop (k + 1) := by
  rw [drop_get hx]
set_option maxHeartbeats 400000 in
theorem cloneI_any (w : World) (A : Option Addr) (n c : Nat) (xs : List Int) (hr : Rd w A (n * 4) (ints xs)) (hn : n ≤ 1000000000) :
    Calls Try.prog 45 #[.slice A n c] w (fun e w' => ∃ A' c', e = .returned (.slice A' n c') ∧ w'.ownsRow w.heap.size 49 4 (.slice A' n c') n (ints xs) ∧ Below w.heap.size w w') := by
  have hnil := fun (w : World) => Lib.run_eql_slice_nil (P := Try.prog) w 24 49 A n c 0 0 Try.underlying24
  cases A with
  | none =>
    have hx : xs = [] ∧ n = 0 := by
      rcases Nat.eq_zero_or_pos n with h | h
      · have := hr.1; simp at this; exact ⟨List.eq_nil_of_length_eq_zero (by omega), h⟩
      · obtain ⟨_, _, h', _⟩ := hr.2 (by omega); cases h'
    obtain ⟨rfl, rfl⟩ := hx
    go_enter Try.func45, Try.ntmps45
    go_wp2_with fail
    go_ret
    exact ⟨none, 0, rfl, ownN_nil _ _ _ _, Below.refl _ _⟩
  | some a =>
    have hown := ownN_lit w #[] 0 4 49 rfl (by omega)
    go_enter Try.func45, Try.ntmps45
    go_wp2_with (at_builtin; go_must (refine wpList_appSN eltIn rfl _ _ rfl (w.alloc (.cells #[] 49)) w.heap.size _ 0 _ (by rfl) hown _ n c (ints xs) (by rfl) (hr.alloc _) (ints_one1 _) (by simp) (by omega) ?_); rintro A1 c1 w1 hown1 hb1 _)
    go_ret
    simp only [Nat.zero_add, List.nil_append] at hown1
    exact ⟨A1, c1, rfl, hown1, (below_new _ _).trans hb1⟩
/-- The captures of the closure of a part: halt, program, place. -/
structure Cap3 (w : World) (gp gh ga : Nat) (A : Option Addr) (n c : Nat) (h a : Int) : Prop where
  p : w.heap[gp]? = some (.cells #[.slice A n c] 24 (0, 0))
  h : w.heap[gh]? = some (.cells #[.int .i64 h] 2 (0, 0))
  a : w.heap[ga]? = some (.cells #[.int .i64 a] 2 (0, 0))
theorem Cap3.below {w w' : World} {gp gh ga : Nat} {A : Option Addr} {n c : Nat} {h a : Int} (k : Cap3 w gp gh ga A n c h a) (hb : Below w.heap.size w w') : Cap3 w' gp gh ga A n c h a := ⟨blk_bel k.p hb, blk_bel k.h hb, blk_bel k.a hb⟩
theorem Cap3.lt {w : World} {gp gh ga : Nat} {A : Option Addr} {n c : Nat} {h a : Int} (k : Cap3 w gp gh ga A n c h a) : gp < w.heap.size ∧ gh < w.heap.size ∧ ga < w.heap.size := ⟨blk_lt k.p, blk_lt k.h, blk_lt k.a⟩
set_option maxHeartbeats 400000 in
theorem part1_any (w : World) (x : Int) (gp gh ga : Nat) (A : Option Addr) (n c : Nat) (h a : Int) (hc : Cap3 w gp gh ga A n c h a) (hx : 0 ≤ x ∧ x ≤ 100000) (ha : 0 ≤ a ∧ a ≤ 100000) (hn : n ≤ 1000000) :
    Calls Try.prog 44 #[.int .i64 x, .pointer (some ⟨gp, 0, none⟩), .pointer (some ⟨gh, 0, none⟩), .pointer (some ⟨ga, 0, none⟩)] w (fun e w' => e = .returned (.int .i64 (redT n h a x)) ∧ w = w') := by
  have p0 := blk_cell hc.p 0 rfl
  have h0 := blk_cell hc.h 0 rfl
  have a0 := blk_cell hc.a 0 rfl
  have hw := wr_of (x := x + a) (by omega) (by omega)
  by_cases he : x = (n : Int)
  · have hq : (x == (n : Int)) = true := by rw [he]; simp
    have HE : Hid (redT n h a x = h) := Lib.hid (by unfold redT; rw [if_pos he])
    clear he
    go_enter Try.func44, Try.ntmps44
    go_wp2_with (go_at_call 21; refine (sizeInstr_any _ _ _ _ (by omega)).mono ?_; rintro e w' ⟨rfl, rfl⟩)
    go_ret
    exact ⟨by rw [HE.out]; rfl, rfl⟩
  · have hq : (x == (n : Int)) = false := by rw [beq_eq_false_iff_ne]; exact he
    have HE : Hid (redT n h a x = x + a) := Lib.hid (by unfold redT; rw [if_neg he])
    clear he
    go_enter Try.func44, Try.ntmps44
    go_wp2_with (go_at_call 21; refine (sizeInstr_any _ _ _ _ (by omega)).mono ?_; rintro e w' ⟨rfl, rfl⟩)
    go_ret
    exact ⟨by rw [HE.out]; rfl, rfl⟩
set_option maxHeartbeats 4000000 in
set_option maxRecDepth 100000 in
theorem redirected_any (w : World) (A : Option Addr) (n c : Nat) (ps : List Ins) (hr : Rd w A (n * 4) (ints (flatI ps))) (hok : okProg ps = true) (gp gh ga : Nat) (h a : Int) (hc : Cap3 w gp gh ga A n c h a) (ha : 0 ≤ a ∧ a ≤ 100000) :
    Calls Try.prog 43 #[.slice A n c, .func (.func 44) #[] #[.pointer (some ⟨gp, 0, none⟩), .pointer (some ⟨gh, 0, none⟩), .pointer (some ⟨ga, 0, none⟩)]] w (fun e w' => ∃ A' c', e = .returned (.slice A' n c') ∧ w'.ownsRow w.heap.size 49 4 (.slice A' n c') n (ints (flatI (ps.map (redI n h a)))) ∧ Below w.heap.size w w') := by
  have hpl : ps.length = n := by have h3 := hr.1; simp only [List.length_map, flatI_len] at h3; omega
  have hok2 := hok
  simp only [okProg, Bool.and_eq_true, decide_eq_true_eq] at hok2
  have hn : n ≤ 400 := by omega
  have HPL := Lib.hid hpl; have HOK := Lib.hid hok2.1; have HC := Lib.hid hc; have HA := Lib.hid ha
  have HCL := Lib.hid (cloneI_any w A n c (flatI ps) hr (by omega))
  clear hpl hok2 hok hc ha hr
  go_enter Try.func43, Try.ntmps43
  go_wp2_with (go_at_call 45; refine HCL.out.mono ?_; rintro e w1 ⟨A1, c1, rfl, ho1, hb1⟩
               have HO1 := Lib.hid ho1; have HB1 := Lib.hid hb1
               clear ho1 hb1)
  go_loopw [12] (fun q wr => ∃ k : Nat, k ≤ n ∧ q = .int .i64 k ∧ Hid (wr.ownsRow w.heap.size 49 4 (.slice A1 n c1) n (ints (flatI ((ps.take k).map (redI n h a) ++ ps.drop k)))) ∧ Hid (Below w.heap.size w wr)) (fun q _ => n - (intOf q).toNat)
  case atStart => exact ⟨0, Nat.zero_le _, by go_num, Lib.hid (by simpa using HO1.out), HB1⟩
  case round =>
    as_aux_lemma =>
    obtain ⟨k, hk, rfl, HO, HB⟩ := hrel
    by_cases hlt : k < n
    · as_aux_lemma =>
      obtain ⟨x, hx⟩ := get_some (xs := ps) (k := k) (by rw [HPL.out]; exact hlt)
      have hi := okIns_all (List.all_eq_true.1 HOK.out x (List.mem_of_getElem? hx))
      rw [HPL.out] at hi
      have HI := Lib.hid hi
      have hl : ((ps.take k).map (redI n h a)).length = k := by rw [List.length_map, List.length_take, HPL.out]; omega
      have ho := HO.out
      rw [map_headI _ hx] at ho
      obtain ⟨a0, a1, a2, a3⟩ := flatI_at (L := (ps.take k).map (redI n h a)) (R := ps.drop (k + 1)) (x := x) hl
      have HST := Lib.hid (map_stepI (redI n h a) hx)
      obtain ⟨g, rfl, hgl, hgs, r0, f0⟩ := ownN_get ho (ints_get a0)
      obtain ⟨r1, f1⟩ := ownN_at ho (ints_get a1)
      obtain ⟨r2, f2⟩ := ownN_at ho (ints_get a2)
      obtain ⟨r3, f3⟩ := ownN_at ho (ints_get a3)
      have HO2 := Lib.hid ho; have HL := Lib.hid hl
      clear ho hl a0 a1 a2 a3 hx hi HO HO1 HB1
      obtain ⟨kd, rg, th, el⟩ := x
      simp only at r0 r1 r2 r3
      obtain ⟨w2, hw2⟩ : ∃ w2, w2 = wr.alloc (.cells #[.int .i64 kd, .int .i64 rg, .int .i64 th, .int .i64 el] 49) := ⟨_, rfl⟩
      have hx2 : w2.heap[wr.heap.size]? = some (.cells #[.int .i64 kd, .int .i64 rg, .int .i64 th, .int .i64 el] 49 (0, 0)) := by rw [hw2]; exact box_new _ _ _
      have hb2 : Below wr.heap.size wr w2 := by rw [hw2]; exact below_new _ _
      have HX2 := Lib.hid hx2; have HB2 := Lib.hid hb2
      have HO3 := Lib.hid (ownN_below HO2.out hb2 (Nat.le_refl _))
      have HC2 := Lib.hid ((HC.out.below HB.out).below hb2)
      have HGS : Hid (¬ wr.heap.size = g) := Lib.hid (by omega)
      have HGC : Hid ((¬ gp = g ∧ ¬ gh = g ∧ ¬ ga = g) ∧ w.heap.size ≤ g) := Lib.hid (by have := HC.out.lt; omega)
      clear hx2 hb2 HC HO2
      go_upto_region 5 with fail
      rw [← hw2]
      clear hw2 r0 r1 r2 r3 f0 f1 f2 f3
      have x2 := blk_cell HX2.out 2 rfl
      obtain ⟨r2, f2⟩ := ownN_at HO3.out (ints_get (flatI_at HL.out).2.2.1)
      have HT := Lib.hid (part1_any w2 th gp gh ga A n c h a HC2.out (by have h7 : 0 ≤ th ∧ th ≤ (n : Int) := HI.out.2.1; omega) HA.out (by omega))
      obtain ⟨w3, hw3⟩ : ∃ w3, w3 = w2.setCell ⟨g, k * 4 + 2, none⟩ (.int .i64 (redT n h a th)) := ⟨_, rfl⟩
      have HC3 : Hid (Ch (· = g) w2 w3) := Lib.hid (by rw [hw3]; exact ch_set _ _ _ _)
      have ho4 := ownN_put HO3.out (k * 4 + 2) (.int .i64 (redT n h a th))
      rw [← hw3, flatI_set2 HL.out] at ho4
      have HO4 := Lib.hid ho4
      have HX3 := Lib.hid (blk_ch HX2.out HC3.out HGS.out)
      have HK3 : Hid (Cap3 w3 gp gh ga A n c h a) := Lib.hid ⟨blk_ch HC2.out.p HC3.out HGC.out.1.1, blk_ch HC2.out.h HC3.out HGC.out.1.2.1, blk_ch HC2.out.a HC3.out HGC.out.1.2.2⟩
      have HB3 : Hid (Below w.heap.size w w3) := Lib.hid (below_ch (HB.out.trans (HB2.out.mono HB.out.size)) HC3.out (fun q e => by rw [e]; exact HGC.out.2) (by have := HB.out.size; have := HB2.out.size; omega))
      clear ho4
      go_upto_region 6 with (go_at_call 44; refine HT.out.mono ?_; rintro e w' ⟨rfl, rfl⟩)
      rw [← hw3]
      clear hw3 r2 f2 x2 HT
      have x0 := blk_cell HX3.out 0 rfl
      by_cases hk1 : kd = 1
      · as_aux_lemma =>
        have hq : (kd == 1) = true := by rw [hk1]; rfl
        have HF : Hid (redI n h a ⟨kd, rg, th, el⟩ = ⟨kd, rg, redT n h a th, redT n h a el⟩) := Lib.hid (by simp only [redI, hk1, if_true])
        have HE : Hid (0 ≤ el ∧ el ≤ n) := Lib.hid (by have h7 : kd = 0 ∨ kd = 1 ∧ 0 ≤ el ∧ el ≤ (n : Int) := HI.out.2.2; omega)
        clear hk1
        have x3 := blk_cell HX3.out 3 rfl
        obtain ⟨r3, f3⟩ := ownN_at HO4.out (ints_get (flatI_at HL.out).2.2.2)
        have HT := Lib.hid (part1_any w3 el gp gh ga A n c h a HK3.out (by have h7 := HE.out; omega) HA.out (by omega))
        obtain ⟨w4, hw4⟩ : ∃ w4, w4 = w3.setCell ⟨g, k * 4 + 3, none⟩ (.int .i64 (redT n h a el)) := ⟨_, rfl⟩
        have HC4 : Hid (Ch (· = g) w3 w4) := Lib.hid (by rw [hw4]; exact ch_set _ _ _ _)
        have ho5 := ownN_put HO4.out (k * 4 + 3) (.int .i64 (redT n h a el))
        rw [← hw4, flatI_set3 HL.out] at ho5
        have HO5 := Lib.hid ho5
        have HB4 : Hid (Below w.heap.size w w4) := Lib.hid (below_ch HB3.out HC4.out (fun q e => by rw [e]; exact HGC.out.2) HB3.out.size)
        clear ho5
        go_upto_region 8 with (go_at_call 44; refine HT.out.mono ?_; rintro e w' ⟨rfl, rfl⟩)
        rw [← hw4]
        clear hw4
        go_wp2_with fail
        go_roundw
        case rel => exact ⟨k + 1, by omega, by go_num, Lib.hid (by have h5 := HO5.out; rw [HST.out, HF.out]; exact h5), HB4⟩
        case measure => simp [intOf]; omega
      · as_aux_lemma =>
        have hq : (kd == 1) = false := by rw [beq_eq_false_iff_ne]; exact hk1
        have HF : Hid (redI n h a ⟨kd, rg, th, el⟩ = ⟨kd, rg, redT n h a th, el⟩) := Lib.hid (by simp only [redI]; rw [if_neg hk1])
        clear hk1
        go_wp2_with fail
        go_roundw
        case rel => exact ⟨k + 1, by omega, by go_num, Lib.hid (by have h5 := HO4.out; rw [HST.out, HF.out]; exact h5), HB3⟩
        case measure => simp [intOf]; omega
    · as_aux_lemma =>
      have hkn : k = n := by omega
      have HK := Lib.hid hkn
      clear hkn
      go_wp2_with fail
      go_ret
      refine ⟨_, _, rfl, ?_, HB.out⟩
      have h5 := HO.out
      rw [HK.out, ← HPL.out, List.take_length, List.drop_length, List.append_nil, HPL.out] at h5
      exact h5
end Go.Proofs.Ytgnboemmlohahaa
