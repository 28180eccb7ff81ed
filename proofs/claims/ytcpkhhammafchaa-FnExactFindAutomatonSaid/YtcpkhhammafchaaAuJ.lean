/- Automata (program): closure, avoids, proof. Written by mk_auj.py. -/
import Derived.Test.YtcpkhhammafchaaAuI
import Derived.Test.YtcpkhhammafchaaAuA
import Derived.Test.YtcpkhhammafchaaGE
namespace Go.Proofs.Ytcpkhhammafchaa
open Go.RowKit
open Go.Maps (Keyed Tidy IsMap)
set_option linter.unusedVariables false
set_option linter.unusedSimpArgs false
attribute [local go_sem ↓] Go.wp_at_zero Go.wp_at_succ
theorem take_all {P : List Int → Bool} {L : List (List Int)} {k : Nat} {x : List Int} (hx : L[k]? = some x) : (L.take (k + 1)).all P = (P x && (L.take k).all P) := by
  rw [List.take_add_one, hx, List.all_append, Bool.and_comm]
  simp
theorem addF_take {zs L : List (List Int)} {k : Nat} (h : k ≤ L.length) : (zs.foldl addA L).take k = L.take k := by
  apply List.ext_getElem?
  intro i
  rw [List.getElem?_take, List.getElem?_take]
  split
  · rename_i hi
    obtain ⟨x, hx⟩ := get_some (xs := L) (k := i) (by omega)
    rw [hx, addF_pre hx]
  · rfl
/-- What closure leaves. -/
def CloP (w : World) (s : Int) (rs : List Rul) (xs ys : List Int) (e : Ending) (w' : World) : Prop :=
  (ClA s rs xs ys a0 0 none ∧ e = .returned (.tuple #[.slice none 0 0, .bool false, .bool false]) ∧ Below w.heap.size w w') ∨
  (∃ (L : List (List Int)) (A : Option Addr) (n c : Nat), ClA s rs xs ys a0 0 (some L) ∧ e = .returned (.tuple #[.slice A n c, .bool (L.all (fun x => isR (ruleA s rs x))), .bool true]) ∧ Below w.heap.size w w')
set_option maxHeartbeats 8000000 in
set_option maxRecDepth 100000 in
theorem closure_any (w : World) (s t : Int) (A : Option Addr) (n c : Nat) (rs : List Rul) (hr : Rd w A (n * 3) (ints (flatR rs))) (hok : okM s t rs = true) (a : Int) (A1 : Option Addr) (n1 c1 : Nat) (xs : List Int) (hr1 : Rd w A1 n1 (ints xs)) (hx : dfB a xs s = true) (b : Int) (A2 : Option Addr) (n2 c2 : Nat) (ys : List Int) (hr2 : Rd w A2 n2 (ints ys)) (hy : dfB b ys s = true) :
    Calls Try.prog 107 #[auVal s t A n c a A1 n1 c1 b A2 n2 c2] w (CloP w s rs xs ys) := by
  obtain ⟨wa, hwa⟩ : ∃ wa, wa = w.alloc (.cells #[.int .i64 s, .int .i64 t, .slice A n c, .int .i64 a, .slice A1 n1 c1, .int .i64 b, .slice A2 n2 c2] 100) := ⟨_, rfl⟩
  obtain ⟨wb, hwb⟩ : ∃ wb, wb = wa.alloc (.cells #[.slice none 0 0] 160) := ⟨_, rfl⟩
  obtain ⟨wc, hwc⟩ : ∃ wc, wc = wb.alloc (.map #[] 0) := ⟨_, rfl⟩
  obtain ⟨w4, hw4⟩ : ∃ w4, w4 = wc.alloc (.cells #[.map (some (w.heap.size + 1 + 1))] 203) := ⟨_, rfl⟩
  have sa : wa.heap.size = w.heap.size + 1 := by rw [hwa]; simp
  have sb : wb.heap.size = w.heap.size + 1 + 1 := by rw [hwb]; simp [sa]
  have sc : wc.heap.size = w.heap.size + 1 + 1 + 1 := by rw [hwc]; simp [sb]
  have xm : w4.heap[w.heap.size]? = some (.cells #[.int .i64 s, .int .i64 t, .slice A n c, .int .i64 a, .slice A1 n1 c1, .int .i64 b, .slice A2 n2 c2] 100 (0, 0)) := by
    rw [hw4]; refine blk_alloc ?_ _
    rw [hwc]; refine blk_alloc ?_ _
    rw [hwb]; refine blk_alloc ?_ _
    rw [hwa]; exact box_new w _ _
  have xl : w4.heap[w.heap.size + 1]? = some (.cells #[.slice none 0 0] 160 (0, 0)) := by
    rw [hw4]; refine blk_alloc ?_ _
    rw [hwc]; refine blk_alloc ?_ _
    rw [hwb, ← sa]; exact box_new wa _ _
  have xg : w4.heap[w.heap.size + 1 + 1 + 1]? = some (.cells #[.map (some (w.heap.size + 1 + 1))] 203 (0, 0)) := by
    rw [hw4, ← sc]; exact box_new wc _ _
  have xo : w4.ownsMap Try.prog 205 (plainElem (H := Unit) Try.prog 4) (w.heap.size + 1 + 1) 0 (setO []) := by
    rw [hw4, hwc, ← sb]; exact (World.ownsMap_made wb Try.prog 205 _).alloc _
  have hB4 : Below w.heap.size w w4 := by rw [hw4]; refine bqa ?_; rw [hwc]; refine bqa ?_; rw [hwb]; refine bqa ?_; rw [hwa]; exact bqa (Below.refl _ _)
  have hfs : FndS w4 w.heap.size (w.heap.size + 1 + 1 + 1) (w.heap.size + 1 + 1) (w.heap.size + 1) none 0 0 [] := ⟨xg, xo, xl, ownN_nil _ _ _ _, by simp, rfl, by omega, by omega⟩
  have HF0 := Lib.hid (find_any w4 w.heap.size _ _ _ none 0 0 [] hfs hB4.size 0 0 0 0 ⟨rfl, by simp [SmI]⟩ (by omega))
  have HXM := Lib.hid xm; have HB4 := Lib.hid hB4; have HFS := Lib.hid hfs
  have HOK := Lib.hid hok; have HX := Lib.hid hx; have HY := Lib.hid hy
  have HOA0 : Hid (∀ z ∈ a0, okA s t a b z) := Lib.hid (a0_ok hok hx hy)
  have HSU0 : Hid (∀ (wx : World), Below w.heap.size w wx → ∀ (gs mB gl : Nat) (An : Option Addr) (nn cn : Nat) (L : List (List Int)), FndS wx w.heap.size gs mB gl An nn cn L → L.length ≤ 4000 → ∀ (x0 q cc x3 : Int), okA s t a b [x0, q, cc, x3] → Calls Try.prog 148 #[auVal s t A n c a A1 n1 c1 b A2 n2 c2, ouV x0 q cc x3, fndV gs gl] wx (fun r w' => r = .returned (.bool (isR (ruleA s rs [x0, q, cc, x3]))) ∧ FndX wx w.heap.size gs mB gl ((succA s rs xs ys [x0, q, cc, x3]).foldl addA L) w')) := Lib.hid (fun wx hbx gs mB gl An nn cn L hfx hlx x0 q cc x3 hox => successors_any w s t A n c rs hr hok a A1 n1 c1 xs hr1 hx b A2 n2 c2 ys hr2 hy wx hbx gs mB gl An nn cn L hfx hlx x0 q cc x3 hox)
  have HSO : Hid (∀ x, okA s t a b x → ∀ z ∈ succA s rs xs ys x, okA s t a b z) := Lib.hid (fun x hox => succ_ok hok hx hy hox)
  have HSL : Hid (∀ x, (succA s rs xs ys x).length ≤ 120) := Lib.hid (fun x => succ_len hx hy)
  have hW : w4 = (((w.alloc (.cells #[.int .i64 s, .int .i64 t, .slice A n c, .int .i64 a, .slice A1 n1 c1, .int .i64 b, .slice A2 n2 c2] 100)).alloc (.cells #[.slice none 0 0] 160)).alloc (.map #[] 0)).alloc (.cells #[.map (some (w.heap.size + 1 + 1))] 203) := by rw [hw4, hwc, hwb, hwa]
  clear hr hok hr1 hx hr2 hy hwa hwb hwc hw4 sa sb sc xm xl xg xo hB4 hfs
  have hmm := @run_makeMap Try.prog
  go_enter Try.func107, Try.ntmps107
  go_upto_region 2 with fail
  rw [← hW]
  clear hW hmm
  as_aux_lemma =>
  go_wp2_with (go_at_call 147; refine HF0.out.mono ?_; rintro e w5 ⟨rfl, hx5⟩
               have HX5 : Hid (FndX w4 w.heap.size (w.heap.size + 1 + 1 + 1) (w.heap.size + 1 + 1) (w.heap.size + 1) a0 w5) := Lib.hid (by
                 have e0 : addA [] [(0 : Int), 0, 0, 0] = a0 := rfl
                 rw [← e0]; exact hx5)
               clear hx5)
  go_loopw [3, 7] (fun r i wr => ∃ (k : Nat) (L : List (List Int)), i = .int .i64 k ∧ r = .bool ((L.take k).all (fun x => isR (ruleA s rs x))) ∧ Hid (k ≤ L.length) ∧ Hid (L.length ≤ 3000) ∧ Hid (∀ z ∈ L, okA s t a b z) ∧ Hid (∀ res, ClA s rs xs ys L k res → ClA s rs xs ys a0 0 res) ∧ Hid (FndX w4 w.heap.size (w.heap.size + 1 + 1 + 1) (w.heap.size + 1 + 1) (w.heap.size + 1) L wr)) (fun _ i _ => 3001 - (intOf i).toNat)
  case atStart => exact ⟨0, a0, rfl, rfl, Lib.hid (by omega), Lib.hid (by decide), HOA0, Lib.hid (fun _ h => h), HX5⟩
  case round =>
    as_aux_lemma =>
    obtain ⟨k, L, rfl, rfl, HKL, HL3, HLO, HRES, HXR⟩ := hrel
    obtain ⟨An, nn, cn, hs, hot, hb⟩ := HXR.out
    have y0 := blk_cell hs.lb 0 rfl
    have HLN : Hid (L.length = nn) := Lib.hid hs.len
    by_cases hlt : k < nn
    · as_aux_lemma =>
      have HLT := Lib.hid hlt
      have hlti : (k : Int) < (nn : Int) := by omega
      have hk0 : (0 : Int) ≤ (k : Int) := by omega
      obtain ⟨x, hx⟩ := get_some (xs := L) (k := k) (by rw [HLN.out]; exact hlt)
      have hox := HLO.out x (List.mem_of_getElem? hx)
      obtain ⟨x0, q, cc, x3, rfl, k0, k1, k2, k3⟩ := hox
      have HOX : Hid (okA s t a b [x0, q, cc, x3]) := Lib.hid ⟨x0, q, cc, x3, rfl, k0, k1, k2, k3⟩
      have HXK := Lib.hid hx
      obtain ⟨p0r, p1r, p2r, p3r⟩ := flat4 hs.ky hx
      obtain ⟨bR, oR, hAR, hbR, hcR⟩ := (ownN_rd hs.row).2 (by omega)
      have p0 := hcR _ _ (ints_get p0r)
      have p1 := hcR _ _ (ints_get p1r)
      have p2 := hcR _ _ (ints_get p2r)
      have p3 := hcR _ _ (ints_get p3r)
      simp only [← Nat.add_assoc] at p0 p1 p2 p3
      subst hAR
      have hz := HFS.out.keep hot HXM.out (by decide) (by decide)
      have m0 := blk_cell hz 0 rfl
      have m1 := blk_cell hz 1 rfl
      have m2 := blk_cell hz 2 rfl
      have m3 := blk_cell hz 3 rfl
      have m4 := blk_cell hz 4 rfl
      have m5 := blk_cell hz 5 rfl
      have m6 := blk_cell hz 6 rfl
      have hd : Below wr.heap.size wr wr.drew := bqd (Below.refl _ _)
      have HBW : Hid (Below w.heap.size w wr.drew) := Lib.hid (bqd (HB4.out.trans hb))
      have HXD : Hid (FndX w4 w.heap.size (w.heap.size + 1 + 1 + 1) (w.heap.size + 1 + 1) (w.heap.size + 1) L wr.drew) := Lib.hid (HXR.out.bel hd HB4.out.size)
      have HSU := HSU0.out wr.drew HBW.out _ _ _ _ nn cn L (hs.below hd) (by have := HL3.out; omega) x0 q cc x3 HOX.out
      obtain ⟨Lx, hLx⟩ : ∃ Lx, Lx = (succA s rs xs ys [x0, q, cc, x3]).foldl addA L := ⟨_, rfl⟩
      rw [← hLx] at HSU
      replace HSU := Lib.hid HSU
      have HLX := Lib.hid hLx
      obtain ⟨bo, hbo⟩ : ∃ bo, bo = isR (ruleA s rs [x0, q, cc, x3]) := ⟨_, rfl⟩
      have HSU' := HSU.out
      rw [← hbo] at HSU'
      replace HSU := Lib.hid HSU'
      have HALL : Hid ((Lx.take (k + 1)).all (fun x => isR (ruleA s rs x)) = (bo && (L.take k).all (fun x => isR (ruleA s rs x)))) := Lib.hid (by
        rw [hLx, addF_take (by rw [HLN.out]; omega), take_all hx, hbo])
      have HLE : Hid (k + 1 ≤ Lx.length) := Lib.hid (by
        have h1 := (addF_len (zs := succA s rs xs ys [x0, q, cc, x3]) (L := L)).1
        rw [← hLx] at h1
        have h2 := HLN.out
        omega)
      obtain ⟨ro, hro⟩ : ∃ ro, ro = (L.take k).all (fun x => isR (ruleA s rs x)) := ⟨_, rfl⟩
      rw [← hro] at HALL ⊢
      clear hx hs hot hb k0 k1 k2 k3 p0r p1r p2r p3r hcR hbR hz hd hLx hbo HSU' hro
      cases bo with
      | false =>
        as_aux_lemma =>
        go_wp2_with fail
        (first | (go_region_law (first
          | (go_simp
             go_at_call 148
             refine HSU.out.mono ?_
             rintro e w5 ⟨rfl, hx5⟩
             have HX5 := Lib.hid hx5
             obtain ⟨A5, n5, c5, hs5, -, -⟩ := hx5
             have y5 := blk_cell hs5.lb 0 rfl
             have HLB5 := Lib.hid hs5.lb
             have HN5 : Hid (Lx.length = n5) := Lib.hid hs5.len
             clear hs5))) | fail)
        all_goals
          as_aux_lemma =>
          clear y0 p0 p1 p2 p3 m0 m1 m2 m3 m4 m5 m6
          by_cases hbig : 3000 < n5
          · as_aux_lemma =>
            have hbi : (3000 : Int) < (n5 : Int) := by omega
            have HCA : Hid (ClA s rs xs ys a0 0 none) := Lib.hid (HRES.out none (.full HXK.out (by rw [← HLX.out, HN5.out]; exact hbig)))
            have f5 := blk_free HLB5.out 0
            have HBX : Hid (Below w.heap.size w w5) := Lib.hid (by
              obtain ⟨A6, n6, c6, -, -, h6⟩ := (HXD.out.trans HX5.out)
              exact HB4.out.trans h6)
            clear hbig
            go_wp2_with fail
            exact bodyPost_ret (v := .tuple #[.slice none 0 0, .bool false, .bool false]) (by simp [results, Try.results107, go_sem, y5]) rfl (.inl ⟨HCA.out, rfl, below_ch HBX.out (ch_set w5 _ 0 _) (fun q e => by have e2 : q = w.heap.size + 1 := e; omega) HBX.out.size⟩)
          · as_aux_lemma =>
            have hbi : ¬ (3000 : Int) < (n5 : Int) := by omega
            have HBIG := Lib.hid hbig
            have hk3 : k ≤ 3000 := by have h1 := HLT.out; have h2 := HL3.out; have h3 := HLN.out; omega
            have HOL : Hid (∀ z ∈ Lx, okA s t a b z) := Lib.hid (by rw [HLX.out]; exact addF_ok HLO.out (HSO.out _ HOX.out))
            clear hbig
            go_wp2_with fail
            go_roundw
            case rel => exact ⟨k + 1, Lx, by go_num, by rw [HALL.out]; rfl, HLE, Lib.hid (by rw [HN5.out]; have := HBIG.out; omega), HOL, Lib.hid (fun res h => HRES.out res (.more HXK.out (by rw [← HLX.out, HN5.out]; exact HBIG.out) (by rw [← HLX.out]; exact h))), Lib.hid (HXD.out.trans HX5.out)⟩
            case measure => have := HLT.out; have := HL3.out; have := HLN.out; simp [intOf]; omega
      | true =>
        as_aux_lemma =>
        go_wp2_with fail
        (first | (go_region_law (first
          | (go_simp
             go_at_call 148
             refine HSU.out.mono ?_
             rintro e w5 ⟨rfl, hx5⟩
             have HX5 := Lib.hid hx5
             obtain ⟨A5, n5, c5, hs5, -, -⟩ := hx5
             have y5 := blk_cell hs5.lb 0 rfl
             have HLB5 := Lib.hid hs5.lb
             have HN5 : Hid (Lx.length = n5) := Lib.hid hs5.len
             clear hs5))) | fail)
        all_goals
          as_aux_lemma =>
          clear y0 p0 p1 p2 p3 m0 m1 m2 m3 m4 m5 m6
          by_cases hbig : 3000 < n5
          · as_aux_lemma =>
            have hbi : (3000 : Int) < (n5 : Int) := by omega
            have HCA : Hid (ClA s rs xs ys a0 0 none) := Lib.hid (HRES.out none (.full HXK.out (by rw [← HLX.out, HN5.out]; exact hbig)))
            have f5 := blk_free HLB5.out 0
            have HBX : Hid (Below w.heap.size w w5) := Lib.hid (by
              obtain ⟨A6, n6, c6, -, -, h6⟩ := (HXD.out.trans HX5.out)
              exact HB4.out.trans h6)
            clear hbig
            go_wp2_with fail
            exact bodyPost_ret (v := .tuple #[.slice none 0 0, .bool false, .bool false]) (by simp [results, Try.results107, go_sem, y5]) rfl (.inl ⟨HCA.out, rfl, below_ch HBX.out (ch_set w5 _ 0 _) (fun q e => by have e2 : q = w.heap.size + 1 := e; omega) HBX.out.size⟩)
          · as_aux_lemma =>
            have hbi : ¬ (3000 : Int) < (n5 : Int) := by omega
            have HBIG := Lib.hid hbig
            have hk3 : k ≤ 3000 := by have h1 := HLT.out; have h2 := HL3.out; have h3 := HLN.out; omega
            have HOL : Hid (∀ z ∈ Lx, okA s t a b z) := Lib.hid (by rw [HLX.out]; exact addF_ok HLO.out (HSO.out _ HOX.out))
            clear hbig
            go_wp2_with fail
            go_roundw
            case rel => exact ⟨k + 1, Lx, by go_num, by rw [HALL.out]; rfl, HLE, Lib.hid (by rw [HN5.out]; have := HBIG.out; omega), HOL, Lib.hid (fun res h => HRES.out res (.more HXK.out (by rw [← HLX.out, HN5.out]; exact HBIG.out) (by rw [← HLX.out]; exact h))), Lib.hid (HXD.out.trans HX5.out)⟩
            case measure => have := HLT.out; have := HL3.out; have := HLN.out; simp [intOf]; omega
    · as_aux_lemma =>
      have hlti : ¬ (k : Int) < (nn : Int) := by omega
      have HE : Hid (L.take k = L) := Lib.hid (List.take_of_length_le (by rw [HLN.out]; omega))
      have HCA : Hid (ClA s rs xs ys a0 0 (some L)) := Lib.hid (HRES.out (some L) (.done (by have h1 := HLN.out; have h2 := HKL.out; omega)))
      have f0 := blk_free hs.lb 0
      have HBX : Hid (Below w.heap.size w wr) := Lib.hid (HB4.out.trans hb)
      clear hs hot hb
      go_wp2_with fail
      exact bodyPost_ret (v := .tuple #[.slice An nn cn, .bool (L.all (fun x => isR (ruleA s rs x))), .bool true]) (by simp [results, Try.results107, go_sem, y0, HE.out]) rfl (.inr ⟨L, An, nn, cn, HCA.out, rfl, below_ch HBX.out (ch_set wr _ 0 _) (fun q e => by have e2 : q = w.heap.size + 1 := e; omega) HBX.out.size⟩)
set_option maxHeartbeats 4000000 in
theorem avoids_any (w : World) (s t : Int) (A : Option Addr) (n c : Nat) (rs : List Rul) (hr : Rd w A (n * 3) (ints (flatR rs))) (hok : okM s t rs = true) (a : Int) (A1 : Option Addr) (n1 c1 : Nat) (xs : List Int) (hr1 : Rd w A1 n1 (ints xs)) (hx : dfB a xs s = true) (b : Int) (A2 : Option Addr) (n2 c2 : Nat) (ys : List Int) (hr2 : Rd w A2 n2 (ints ys)) (hy : dfB b ys s = true) :
    Calls Try.prog 57 #[auVal s t A n c a A1 n1 c1 b A2 n2 c2] w (RetV w (.bool (avA s rs xs ys))) := by
  obtain ⟨w0, hw0⟩ : ∃ w0, w0 = w.alloc (.cells #[.int .i64 s, .int .i64 t, .slice A n c, .int .i64 a, .slice A1 n1 c1, .int .i64 b, .slice A2 n2 c2] 100) := ⟨_, rfl⟩
  have hB : Below w.heap.size w w0 := by rw [hw0]; exact below_new w _
  have hx0 : w0.heap[w.heap.size]? = some (.cells #[.int .i64 s, .int .i64 t, .slice A n c, .int .i64 a, .slice A1 n1 c1, .int .i64 b, .slice A2 n2 c2] 100 (0, 0)) := by rw [hw0]; exact box_new w _ _
  have q0 := blk_cell hx0 0 rfl
  have q1 := blk_cell hx0 1 rfl
  have q2 := blk_cell hx0 2 rfl
  have q3 := blk_cell hx0 3 rfl
  have q4 := blk_cell hx0 4 rfl
  have q5 := blk_cell hx0 5 rfl
  have q6 := blk_cell hx0 6 rfl
  have HB := Lib.hid hB
  have HC := Lib.hid (closure_any w0 s t A n c rs (hr.below hB (Nat.le_refl _)) hok a A1 n1 c1 xs (hr1.below hB (Nat.le_refl _)) hx b A2 n2 c2 ys (hr2.below hB (Nat.le_refl _)) hy)
  clear hr hok hr1 hx hr2 hy hB hx0
  go_enter Try.func57, Try.ntmps57
  go_upto_region 1 with fail
  rw [← hw0]
  clear hw0
  go_wp2_with fail
  refine HC.out.mono ?_
  rintro e w2 (⟨hn, rfl, hb2⟩ | ⟨L, A8, n8, c8, hL, rfl, hb2⟩)
  · have HO := Lib.hid (avA_none hn)
    have HB2 := Lib.hid (bqc hb2 HB.out)
    clear hn hb2
    go_wp2_with fail
    go_ret
    exact ⟨by rw [HO.out]; rfl, HB2.out⟩
  · have HO := Lib.hid (avA_some hL)
    have HB2 := Lib.hid (bqc hb2 HB.out)
    obtain ⟨z, hz⟩ : ∃ z, z = L.all (fun x => isR (ruleA s rs x)) := ⟨_, rfl⟩
    rw [← hz] at HO ⊢
    clear hL hb2 hz
    cases z with
    | false =>
      go_wp2_with fail
      go_ret
      exact ⟨by rw [HO.out]; rfl, HB2.out⟩
    | true =>
      go_wp2_with fail
      go_ret
      exact ⟨by rw [HO.out]; rfl, HB2.out⟩
theorem rdL3 {w : World} {A0 A1 A2 : Option Addr} {n0 c0 n1 c1 n2 c2 T : Nat} {x0 x1 x2 : List Int} (h0 : Rd w A0 n0 (ints x0)) (h1 : Rd w A1 n1 (ints x1)) (h2 : Rd w A2 n2 (ints x2)) (b0 : n0 ≤ 1000000000) (b1 : n1 ≤ 1000000000) (b2 : n2 ≤ 1000000000) :
    RdL (w.alloc (.cells #[.slice A0 n0 c0, .slice A1 n1 c1, .slice A2 n2 c2] T)) (some ⟨w.heap.size, 0, none⟩) 3 [x0, x1, x2] := by
  refine ⟨[.slice A0 n0 c0, .slice A1 n1 c1, .slice A2 n2 c2], own_rd (own_lit w #[.slice A0 n0 c0, .slice A1 n1 c1, .slice A2 n2 c2] 3 T rfl (by omega)), rfl, ?_⟩
  intro i v zs hv hz
  match i, hv, hz with
  | 0, hv, hz =>
    obtain rfl : Value.slice A0 n0 c0 = v := by simpa using hv
    obtain rfl : x0 = zs := by simpa using hz
    exact ⟨A0, n0, c0, rfl, b0, h0.alloc _⟩
  | 1, hv, hz =>
    obtain rfl : Value.slice A1 n1 c1 = v := by simpa using hv
    obtain rfl : x1 = zs := by simpa using hz
    exact ⟨A1, n1, c1, rfl, b1, h1.alloc _⟩
  | 2, hv, hz =>
    obtain rfl : Value.slice A2 n2 c2 = v := by simpa using hv
    obtain rfl : x2 = zs := by simpa using hz
    exact ⟨A2, n2, c2, rfl, b2, h2.alloc _⟩
  | i + 3, hv, hz => simp at hv
set_option maxHeartbeats 4000000 in
set_option maxRecDepth 100000 in
theorem auProof_any (w : World) (s t : Int) (A : Option Addr) (n c : Nat) (a : Int) (A1 : Option Addr) (n1 c1 : Nat) (xs : List Int) (hr1 : Rd w A1 n1 (ints xs)) (hn1 : n1 ≤ 1000) (b : Int) (A2 : Option Addr) (n2 c2 : Nat) (ys : List Int) (hr2 : Rd w A2 n2 (ints ys)) (hn2 : n2 ≤ 1000) :
    Calls Try.prog 58 #[auVal s t A n c a A1 n1 c1 b A2 n2 c2] w (fun e w' => ∃ (A' : Option Addr) (n' c' : Nat), e = .returned (prfV 7 A' n' c' none 0 0) ∧ w'.ownsRow w.heap.size 2 1 (.slice A' n' c') n' (ints ([a, b] ++ xs ++ ys)) ∧ Below w.heap.size w w') := by
  obtain ⟨wa, hwa⟩ : ∃ wa, wa = w.alloc (.cells #[.int .i64 s, .int .i64 t, .slice A n c, .int .i64 a, .slice A1 n1 c1, .int .i64 b, .slice A2 n2 c2] 100) := ⟨_, rfl⟩
  obtain ⟨wb, hwb⟩ : ∃ wb, wb = wa.alloc (.cells #[.int .i64 0, .slice none 0 0, .slice none 0 0] 48) := ⟨_, rfl⟩
  have sa : wa.heap.size = w.heap.size + 1 := by rw [hwa]; simp
  have sb : wb.heap.size = w.heap.size + 1 + 1 := by rw [hwb]; simp [sa]
  have xm : wb.heap[w.heap.size]? = some (.cells #[.int .i64 s, .int .i64 t, .slice A n c, .int .i64 a, .slice A1 n1 c1, .int .i64 b, .slice A2 n2 c2] 100 (0, 0)) := by
    rw [hwb]; refine blk_alloc ?_ _
    rw [hwa]; exact box_new w _ _
  have xz : wb.heap[w.heap.size + 1]? = some (.cells #[.int .i64 0, .slice none 0 0, .slice none 0 0] 48 (0, 0)) := by
    rw [hwb, ← sa]; exact box_new wa _ _
  have hB : Below w.heap.size w wb := by rw [hwb]; refine bqa ?_; rw [hwa]; exact bqa (Below.refl _ _)
  obtain ⟨wc, hwc⟩ : ∃ wc, wc = wb.alloc (.cells #[.int .i64 a, .int .i64 b] 2) := ⟨_, rfl⟩
  have sc : wc.heap.size = w.heap.size + 1 + 1 + 1 := by rw [hwc]; simp [sb]
  obtain ⟨wd, hwd⟩ : ∃ wd, wd = wc.alloc (.cells #[.slice (some ⟨w.heap.size + 1 + 1, 0, none⟩) 2 2, .slice A1 n1 c1, .slice A2 n2 c2] 25) := ⟨_, rfl⟩
  have hBc : Below w.heap.size w wc := by rw [hwc]; exact bqa hB
  have hrl : RdL wd (some ⟨w.heap.size + 1 + 1 + 1, 0, none⟩) 3 [[a, b], xs, ys] := by
    rw [hwd, ← sc]
    refine rdL3 ?_ (hr1.below hBc (Nat.le_refl _)) (hr2.below hBc (Nat.le_refl _)) (by omega) (by omega) (by omega)
    rw [hwc, ← sb]
    exact own_rd (own_lit wb #[.int .i64 a, .int .i64 b] 2 2 rfl (by omega))
  have HLX : Hid (xs.length ≤ 1000 ∧ ys.length ≤ 1000) := Lib.hid (by
    have h1 := hr1.1; have h2 := hr2.1
    simp only [List.length_map] at h1 h2
    omega)
  have HJ := Lib.hid (joined_any wd _ 3 3 [[a, b], xs, ys] hrl (by omega) (by have := HLX.out; simp; omega))
  have HBD : Hid (Below w.heap.size w wd) := Lib.hid (by rw [hwd]; exact bqa hBc)
  have HZ : Hid (wd.heap[w.heap.size + 1]? = some (.cells #[.int .i64 0, .slice none 0 0, .slice none 0 0] 48 (0, 0))) := Lib.hid (by rw [hwd]; refine blk_alloc ?_ _; rw [hwc]; exact blk_alloc xz _)
  have HSD : Hid (w.heap.size + 1 < wd.heap.size) := Lib.hid (blk_lt HZ.out)
  have q3 := blk_cell xm 3 rfl
  have q4 := blk_cell xm 4 rfl
  have q5 := blk_cell xm 5 rfl
  have q6 := blk_cell xm 6 rfl
  have hW : wb = (w.alloc (.cells #[.int .i64 s, .int .i64 t, .slice A n c, .int .i64 a, .slice A1 n1 c1, .int .i64 b, .slice A2 n2 c2] 100)).alloc (.cells #[.int .i64 0, .slice none 0 0, .slice none 0 0] 48) := by rw [hwb, hwa]
  have q4' := cell_alX (o := .cells #[.int .i64 a, .int .i64 b] 2) q4
  have q6' := cell_alX (o := .cells #[.int .i64 a, .int .i64 b] 2) q6
  rw [← hwc] at q4' q6'
  clear hr1 hr2 hwa hwb sa xm xz hB hBc hrl
  go_enter Try.func58, Try.ntmps58
  go_upto_region 1 with fail
  rw [← hW]
  clear hW
  go_wp2_with (go_at_call 108
               try rw [← hwc]
               try rw [sb]
               try rw [sc]
               try rw [← hwd]
               refine HJ.out.mono ?_
               rintro e w5 ⟨A5, n5, c5, rfl, ho5, hb5⟩
               have HO5 := Lib.hid ho5; have HB5 := Lib.hid hb5
               have hzb := blk_bel HZ.out hb5
               have z0 := blk_cell hzb 0 rfl
               have z1 := blk_cell hzb 1 rfl
               have z2 := blk_cell hzb 2 rfl
               have f0 := blk_free hzb 0
               have f1 := blk_free hzb 1
               have f2 := blk_free hzb 2
               clear ho5 hb5 hzb)
  exact bodyPost_ret (v := prfV 7 A5 n5 c5 none 0 0) (by simp [results, Try.results58, go_sem, z0, z1, z2]) rfl ⟨A5, n5, c5, rfl, by
    have h4 := own_ch HO5.out (ch_set3 w5 (w.heap.size + 1) (.int .i64 7) (.slice A5 n5 c5) (.slice none 0 0)) (fun q hq e => by
      have h5 := (HO5.out.lt q hq).1
      have h6 := HSD.out
      have e2 : q = w.heap.size + 1 := e
      omega)
    have h7 := ownN_base h4 (show w.heap.size ≤ wd.heap.size from HBD.out.size)
    have e : [[a, b], xs, ys].flatten = [a, b] ++ xs ++ ys := by simp
    rw [e] at h7
    exact h7, below_ch (bqc HB5.out HBD.out) (ch_set3 w5 (w.heap.size + 1) _ _ _) (fun k hk => by have e : k = w.heap.size + 1 := hk; omega) (bqc HB5.out HBD.out).size⟩
end Go.Proofs.Ytcpkhhammafchaa
