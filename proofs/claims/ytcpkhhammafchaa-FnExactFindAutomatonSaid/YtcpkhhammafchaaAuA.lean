/- Automata (reference): the proof. Written by mk_aua.py. -/
import Derived.Test.YtcpkhhammafchaaAuC
import Derived.Test.YtcpkhhammafchaaPr
namespace Go.Proofs.Ytcpkhhammafchaa
open Go.RowKit
set_option linter.unusedVariables false
set_option linter.unusedSimpArgs false
attribute [local go_sem ↓] Go.wp_at_zero Go.wp_at_succ
theorem all_take {P : List Int → Bool} {L : List (List Int)} {k : Nat} {x : List Int} (h : ∀ y ∈ L.take k, P y = true) (hx : L[k]? = some x) (hp : P x = true) : ∀ y ∈ L.take (k + 1), P y = true := by
  intro y hy
  rw [List.take_add_one, hx] at hy
  rcases List.mem_append.1 hy with hy | hy
  · exact h y hy
  · simp only [Option.toList, List.mem_singleton] at hy
    rw [hy]; exact hp
theorem all_mem {P : List Int → Bool} {L M : List (List Int)} (h : ∀ z, z ∈ M ↔ z ∈ L) : L.all P = M.all P := by
  rw [Bool.eq_iff_iff, List.all_eq_true, List.all_eq_true]
  exact ⟨fun h1 z hz => h1 z ((h z).1 hz), fun h1 z hz => h1 z ((h z).2 hz)⟩
theorem all_no {P : List Int → Bool} {L : List (List Int)} {x : List Int} {k : Nat} (hx : L[k]? = some x) (hp : P x = false) : L.all P = false := by
  rw [Bool.eq_false_iff]
  intro h
  have h2 := List.all_eq_true.1 h x (List.mem_of_getElem? hx)
  rw [hp] at h2
  cases h2
set_option maxHeartbeats 8000000 in
set_option maxRecDepth 100000 in
theorem l28Avoids_any (w : World) (gm : Nat) (s t : Int) (A : Option Addr) (n c : Nat) (hm : BM w gm s t A n c) (rs : List Rul) (hr : Rd w A (n * 3) (ints (flatR rs))) (hok : okM s t rs = true) (g1 : Nat) (a : Int) (A1 : Option Addr) (n1 c1 : Nat) (h1 : BD w g1 a A1 n1 c1) (xs : List Int) (hr1 : Rd w A1 n1 (ints xs)) (hx : dfB a xs s = true) (g2 : Nat) (b : Int) (A2 : Option Addr) (n2 c2 : Nat) (h2 : BD w g2 b A2 n2 c2) (ys : List Int) (hr2 : Rd w A2 n2 (ints ys)) (hy : dfB b ys s = true) :
    Calls Try.prog 52 #[.pointer (some ⟨gm, 0, none⟩), .pointer (some ⟨g1, 0, none⟩), .pointer (some ⟨g2, 0, none⟩)] w (RetV w (.bool (avA s rs xs ys))) := by
  have HCC := Lib.hid (l28Closure_any w gm s t A n c hm rs hr hok g1 a A1 n1 c1 h1 xs hr1 hx g2 b A2 n2 c2 h2 ys hr2 hy)
  have HM := Lib.hid hm; have HR := Lib.hid hr; have HOK := Lib.hid hok
  have HSS := Lib.hid (okM_all hok).1
  have HTT := Lib.hid (okM_all hok).2.1
  have HRL : Hid (rs.length = n) := Lib.hid (by have := hr.1; simp [flatR_len] at this; omega)
  clear hm hr hok h1 hr1 hx h2 hr2 hy
  go_enter Try.func52, Try.ntmps52
  go_wp2_with fail
  refine HCC.out.mono ?_
  rintro e w2 (⟨hn, rfl, hb2⟩ | ⟨L, out, A8, m8, c8, hL, hok8, hmem, hm8, rfl, hrl, hb2⟩)
  · as_aux_lemma =>
    have HO := Lib.hid (avA_none hn)
    have HB2 := Lib.hid hb2
    clear hn hb2
    go_wp2_with fail
    go_loopw [9] (fun i wr => i = .int .i64 0 ∧ Hid (Below w.heap.size w wr)) (fun i _ => 1 - (intOf i).toNat)
    case atStart => exact ⟨rfl, HB2⟩
    case round =>
      obtain ⟨rfl, HBR⟩ := hrel
      go_wp2_with fail
      go_ret
      exact ⟨by rw [HO.out]; rfl, HBR.out⟩
  · as_aux_lemma =>
    have HO : Hid (avA s rs xs ys = out.all (fun x => isR (ruleA s rs x))) := Lib.hid ((avA_some hL).trans (all_mem hmem))
    have HB2 := Lib.hid hb2; have HRL8 := Lib.hid hrl; have HO8 := Lib.hid hok8
    have HLE : Hid (out.length = m8) := Lib.hid hrl.len
    clear hL hok8 hmem hrl hb2
    go_wp2_with fail
    go_loopw [9] (fun i wr => ∃ k : Nat, k ≤ m8 ∧ i = .int .i64 k ∧ Hid (∀ y ∈ out.take k, isR (ruleA s rs y) = true) ∧ Hid (Below w2.heap.size w2 wr)) (fun i _ => m8 - (intOf i).toNat)
    case atStart => exact ⟨0, Nat.zero_le _, rfl, Lib.hid (by simp), Lib.hid (Below.refl _ _)⟩
    case round =>
      as_aux_lemma =>
      obtain ⟨k, hk, rfl, HALL, HBX⟩ := hrel
      obtain ⟨wv, rfl⟩ : ∃ v, v = wr := ⟨_, rfl⟩
      by_cases hlt : k < m8
      · as_aux_lemma =>
        have HLT := Lib.hid hlt
        have hlti : (k : Int) < (m8 : Int) := by omega
        have hk0 : (0 : Int) ≤ (k : Int) := by omega
        obtain ⟨x, hx⟩ := get_some (xs := out) (k := k) (by rw [HLE.out]; exact hlt)
        have HXK := Lib.hid hx
        have HOX : Hid (okA s t a b x) := Lib.hid (HO8.out x (List.mem_of_getElem? hx))
        have HB2W : Hid (Below w.heap.size w wv) := Lib.hid (bqc HBX.out HB2.out)
        obtain ⟨b3, o3, A5, n5, c5, e3, hl3, hc3, hn5, hr5⟩ := (HRL8.out.below HBX.out (Nat.le_refl _)).at_ hx
        subst e3
        obtain ⟨kr, hkr, hgr, hkr2⟩ := rule_a HOK.out HOX.out
        obtain ⟨⟨ra, mv, rc⟩, hru⟩ : ∃ r : Rul, r = ruleA s rs x := ⟨_, rfl⟩
        have HRU := Lib.hid hru
        rw [← hru] at hgr
        have hkn : kr < n := by rw [← HRL.out]; exact (List.getElem?_eq_some_iff.1 hgr).1
        have hkn3 : kr * 3 + 2 < n * 3 := by omega
        have HKN := Lib.hid hkn
        obtain ⟨p0r, p1r, p2r⟩ := flatR_get hgr
        have HG0 := Lib.hid p0r; have HG1 := Lib.hid p1r; have HG2 := Lib.hid p2r
        have hrw := HR.out.below HB2W.out (Nat.le_refl _)
        obtain ⟨bR, oR, hAR, hbR, hcR⟩ := hrw.2 (by omega)
        have p0 := hcR _ _ (ints_get p0r)
        have p1 := hcR _ _ (ints_get p1r)
        have p2 := hcR _ _ (ints_get p2r)
        simp only [← Nat.add_assoc] at p0 p1 p2
        have hmv : isR ⟨ra, mv, rc⟩ = true → mv = 1 ∨ mv = -1 := fun h => by
          have h1 := (isR_a HOK.out HOX.out (by rw [← hru]; exact h)).2.1
          rw [← hru] at h1
          exact h1
        obtain ⟨x0, q, cc, x3, rfl, k0, k1, k2, k3⟩ := HOX.out
        have hki : q * s + cc = (kr : Int) := hkr
        have hss := HSS.out; have htt := HTT.out
        have hqs : 0 ≤ q * s ∧ q * s ≤ 6000 := mul_bd (c := 1000) (d := 6) (by omega) (by omega) (by omega) (by omega)
        obtain ⟨rfl, p5, o5, rfl, hp5, r0, r1, r2, r3⟩ := rd4 hr5
        subst hAR
        have HP5 := Lib.hid hp5
        have HC5 := Lib.hid r1; have HC6 := Lib.hid r2
        have HC3 := Lib.hid hc3; have HL3 := Lib.hid hl3
        have q3 := hc3
        obtain ⟨z0, -, z2⟩ := (HM.out.bel HB2W.out).cells
        have w1 := wr_of hqs.1 (by omega)
        have w2' : IntKind.i64.wrap (q * s + cc) = (kr : Int) := (wr_of (x := q * s + cc) (by omega) (by omega)).trans hki
        have i1 : (0 : Int) ≤ (kr : Int) := by omega
        have i2 : (kr : Int) < (n : Int) := by omega
        obtain ⟨bo, hbo⟩ : ∃ bo, bo = isR ⟨ra, mv, rc⟩ := ⟨_, rfl⟩
        have HBI := Lib.hid hbo
        rw [← hbo] at hmv
        clear hx hr5 hgr hru hkr hkr2 hkn hkn3 p0r p1r p2r hcR hbR hrw k0 k1 k2 k3 hss htt hqs r0 r3 hp5 hl3 hc3 hki hbo hn5
        cases bo with
        | false =>
          as_aux_lemma =>
          obtain ⟨rfl, rfl, rfl⟩ : ra = 0 ∧ mv = 0 ∧ rc = -1 := by
            have h := mvR HBI.out.symm
            injection h with h1 h2 h3
            exact ⟨h1, h2, h3⟩
          have HF : Hid (out.all (fun x => isR (ruleA s rs x)) = false) := Lib.hid (all_no HXK.out (by show isR (ruleA s rs _) = false; rw [← HRU.out, ← HBI.out]))
          clear hmv
          go_wp2_with fail
          (first | (go_region_held3 (fun w' => w'.cell? ⟨gm, 0, none⟩ = some (.int .i64 s) ∧ w'.cell? ⟨gm, 2, none⟩ = some (.slice (some ⟨bR, oR, none⟩) n c) ∧ w'.cell? ⟨b3, o3 + k, none⟩ = some (.slice (some ⟨p5, o5, none⟩) 4 c5) ∧ w'.cell? ⟨p5, o5 + 1, none⟩ = some (.int .i64 q) ∧ w'.cell? ⟨p5, o5 + 2, none⟩ = some (.int .i64 cc) ∧ w'.cell? ⟨bR, oR + kr * 3, none⟩ = some (.int .i64 0) ∧ w'.cell? ⟨bR, oR + kr * 3 + 1, none⟩ = some (.int .i64 0) ∧ w'.cell? ⟨bR, oR + kr * 3 + 2, none⟩ = some (.int .i64 (-1))) (first | exact ⟨z0, z2, q3, r1, r2, p0, p1, p2⟩ | go_keep) (first
            | (go_simp
               go_at_call 103
               refine (l05None_any _).mono ?_
               rintro e w4 ⟨rfl, hb4⟩
               replace hb4 := und1 hb4
               have HB4 : Hid (Below wv.heap.size wv w4) := Lib.hid hb4
               have hb24 := bqc hb4 HB2W.out
               obtain ⟨z0, -, z2⟩ := (HM.out.bel hb24).cells
               have q3 := (hb4.cell (p := ⟨b3, o3 + k, none⟩) HL3.out).trans HC3.out
               have r1 := (hb4.cell (p := ⟨p5, o5 + 1, none⟩) HP5.out).trans HC5.out
               have r2 := (hb4.cell (p := ⟨p5, o5 + 2, none⟩) HP5.out).trans HC6.out
               have hr4 := HR.out.below hb24 (Nat.le_refl _)
               obtain ⟨bR2, oR2, hAR2, hbR2, hcR2⟩ := hr4.2 (by have := HKN.out; omega)
               injection hAR2 with hAR2
               injection hAR2 with hAR2 hAR3
               subst hAR2 hAR3
               have p0 := hcR2 _ _ (ints_get HG0.out)
               have p1 := hcR2 _ _ (ints_get HG1.out)
               have p2 := hcR2 _ _ (ints_get HG2.out)
               simp only [← Nat.add_assoc] at p0 p1 p2
               clear hb4 hb24 hr4 hcR2 hbR2))) | fail)
          all_goals
            go_wp2_with fail
            go_ret
            exact ⟨by rw [HO.out, HF.out]; rfl, by first | exact bqc HB4.out HB2W.out | exact bqd (bqc HB4.out HB2W.out)⟩
        | true =>
          as_aux_lemma =>
          have HT : Hid (∀ y ∈ out.take (k + 1), isR (ruleA s rs y) = true) := Lib.hid (all_take HALL.out HXK.out (by show isR (ruleA s rs _) = true; rw [← HRU.out, ← HBI.out]))
          rcases hmv rfl with rfl | rfl
          · as_aux_lemma =>
            clear hmv
            go_wp2_with fail
            (first | (go_region_held3 (fun w' => w'.cell? ⟨gm, 0, none⟩ = some (.int .i64 s) ∧ w'.cell? ⟨gm, 2, none⟩ = some (.slice (some ⟨bR, oR, none⟩) n c) ∧ w'.cell? ⟨b3, o3 + k, none⟩ = some (.slice (some ⟨p5, o5, none⟩) 4 c5) ∧ w'.cell? ⟨p5, o5 + 1, none⟩ = some (.int .i64 q) ∧ w'.cell? ⟨p5, o5 + 2, none⟩ = some (.int .i64 cc) ∧ w'.cell? ⟨bR, oR + kr * 3, none⟩ = some (.int .i64 ra) ∧ w'.cell? ⟨bR, oR + kr * 3 + 1, none⟩ = some (.int .i64 1) ∧ w'.cell? ⟨bR, oR + kr * 3 + 2, none⟩ = some (.int .i64 rc)) (first | exact ⟨z0, z2, q3, r1, r2, p0, p1, p2⟩ | go_keep) (first
              | (go_simp
                 go_at_call 103
                 refine (l05None_any _).mono ?_
                 rintro e w4 ⟨rfl, hb4⟩
                 replace hb4 := und1 hb4
                 have HB4 : Hid (Below wv.heap.size wv w4) := Lib.hid hb4
                 have hb24 := bqc hb4 HB2W.out
                 obtain ⟨z0, -, z2⟩ := (HM.out.bel hb24).cells
                 have q3 := (hb4.cell (p := ⟨b3, o3 + k, none⟩) HL3.out).trans HC3.out
                 have r1 := (hb4.cell (p := ⟨p5, o5 + 1, none⟩) HP5.out).trans HC5.out
                 have r2 := (hb4.cell (p := ⟨p5, o5 + 2, none⟩) HP5.out).trans HC6.out
                 have hr4 := HR.out.below hb24 (Nat.le_refl _)
                 obtain ⟨bR2, oR2, hAR2, hbR2, hcR2⟩ := hr4.2 (by have := HKN.out; omega)
                 injection hAR2 with hAR2
                 injection hAR2 with hAR2 hAR3
                 subst hAR2 hAR3
                 have p0 := hcR2 _ _ (ints_get HG0.out)
                 have p1 := hcR2 _ _ (ints_get HG1.out)
                 have p2 := hcR2 _ _ (ints_get HG2.out)
                 simp only [← Nat.add_assoc] at p0 p1 p2
                 clear hb4 hb24 hr4 hcR2 hbR2))) | fail)
            all_goals
              go_wp2_with fail
              go_roundw
              case rel => exact ⟨k + 1, HLT.out, by go_num, HT, by first | exact Lib.hid (bqc HB4.out HBX.out) | exact Lib.hid (bqd (bqc HB4.out HBX.out))⟩
              case measure => have := HLT.out; simp [intOf]; omega
          · as_aux_lemma =>
            clear hmv
            go_wp2_with fail
            (first | (go_region_held3 (fun w' => w'.cell? ⟨gm, 0, none⟩ = some (.int .i64 s) ∧ w'.cell? ⟨gm, 2, none⟩ = some (.slice (some ⟨bR, oR, none⟩) n c) ∧ w'.cell? ⟨b3, o3 + k, none⟩ = some (.slice (some ⟨p5, o5, none⟩) 4 c5) ∧ w'.cell? ⟨p5, o5 + 1, none⟩ = some (.int .i64 q) ∧ w'.cell? ⟨p5, o5 + 2, none⟩ = some (.int .i64 cc) ∧ w'.cell? ⟨bR, oR + kr * 3, none⟩ = some (.int .i64 ra) ∧ w'.cell? ⟨bR, oR + kr * 3 + 1, none⟩ = some (.int .i64 (-1)) ∧ w'.cell? ⟨bR, oR + kr * 3 + 2, none⟩ = some (.int .i64 rc)) (first | exact ⟨z0, z2, q3, r1, r2, p0, p1, p2⟩ | go_keep) (first
              | (go_simp
                 go_at_call 103
                 refine (l05None_any _).mono ?_
                 rintro e w4 ⟨rfl, hb4⟩
                 replace hb4 := und1 hb4
                 have HB4 : Hid (Below wv.heap.size wv w4) := Lib.hid hb4
                 have hb24 := bqc hb4 HB2W.out
                 obtain ⟨z0, -, z2⟩ := (HM.out.bel hb24).cells
                 have q3 := (hb4.cell (p := ⟨b3, o3 + k, none⟩) HL3.out).trans HC3.out
                 have r1 := (hb4.cell (p := ⟨p5, o5 + 1, none⟩) HP5.out).trans HC5.out
                 have r2 := (hb4.cell (p := ⟨p5, o5 + 2, none⟩) HP5.out).trans HC6.out
                 have hr4 := HR.out.below hb24 (Nat.le_refl _)
                 obtain ⟨bR2, oR2, hAR2, hbR2, hcR2⟩ := hr4.2 (by have := HKN.out; omega)
                 injection hAR2 with hAR2
                 injection hAR2 with hAR2 hAR3
                 subst hAR2 hAR3
                 have p0 := hcR2 _ _ (ints_get HG0.out)
                 have p1 := hcR2 _ _ (ints_get HG1.out)
                 have p2 := hcR2 _ _ (ints_get HG2.out)
                 simp only [← Nat.add_assoc] at p0 p1 p2
                 clear hb4 hb24 hr4 hcR2 hbR2))) | fail)
            all_goals
              go_wp2_with fail
              go_roundw
              case rel => exact ⟨k + 1, HLT.out, by go_num, HT, by first | exact Lib.hid (bqc HB4.out HBX.out) | exact Lib.hid (bqd (bqc HB4.out HBX.out))⟩
              case measure => have := HLT.out; simp [intOf]; omega
      · as_aux_lemma =>
        have HT : Hid (out.all (fun x => isR (ruleA s rs x)) = true) := Lib.hid (by
          rw [List.all_eq_true]
          intro y hy
          exact HALL.out y (by rw [List.take_of_length_le (by have := HLE.out; omega)]; exact hy))
        have hlti : ¬ (k : Int) < (m8 : Int) := by omega
        go_wp2_with fail
        go_ret
        exact ⟨by rw [HO.out, HT.out]; rfl, bqc HBX.out HB2.out⟩
set_option maxHeartbeats 4000000 in
set_option maxRecDepth 100000 in
theorem l28Proof_any (w : World) (g1 : Nat) (a : Int) (A1 : Option Addr) (n1 c1 : Nat) (h1 : BD w g1 a A1 n1 c1) (xs : List Int) (hr1 : Rd w A1 n1 (ints xs)) (hn1 : n1 ≤ 1000) (g2 : Nat) (b : Int) (A2 : Option Addr) (n2 c2 : Nat) (h2 : BD w g2 b A2 n2 c2) (ys : List Int) (hr2 : Rd w A2 n2 (ints ys)) (hn2 : n2 ≤ 1000) :
    Calls Try.prog 53 #[.pointer (some ⟨g1, 0, none⟩), .pointer (some ⟨g2, 0, none⟩)] w (fun e w' => ∃ (A : Option Addr) (n c : Nat), e = .returned (prfV 7 A n c none 0 0) ∧ w'.ownsRow w.heap.size 2 1 (.slice A n c) n (ints ([a, b] ++ xs ++ ys)) ∧ Below w.heap.size w w') := by
  obtain ⟨y0, y1⟩ := h1.cells
  obtain ⟨v0, v1⟩ := h2.cells
  have H1 := Lib.hid h1; have H2 := Lib.hid h2; have HR1 := Lib.hid hr1; have HR2 := Lib.hid hr2
  clear h1 h2 hr1 hr2 y1 v1
  go_enter Try.func53, Try.ntmps53
  go_upto_region 1 with fail
  (first | (go_region_held3 (fun w' => w'.cell? ⟨g1, 0, none⟩ = some (.int .i64 a) ∧ w'.cell? ⟨g2, 0, none⟩ = some (.int .i64 b)) (first | exact ⟨y0, v0⟩ | go_keep) (fail)) | fail)
  all_goals
    as_aux_lemma =>
    clear y0 v0
    go_upto_region 2 with fail
    obtain ⟨w1, hw1⟩ : ∃ w1, w1 = w.alloc (.cells #[.int .i64 0, .slice none 0 0, .slice none 0 0] 48) := ⟨_, rfl⟩
    obtain ⟨w2, hw2⟩ : ∃ w2, w2 = (w1.alloc (.cells #[.int .i64 a, .int .i64 b] 2)).drew := ⟨_, rfl⟩
    have hz : w1.heap[w.heap.size]? = some (.cells #[.int .i64 0, .slice none 0 0, .slice none 0 0] 48 (0, 0)) := by rw [hw1]; exact box_new _ _ _
    have hs1 : w1.heap.size = w.heap.size + 1 := by rw [hw1]; simp
    have hb1 : Below w.heap.size w w1 := by rw [hw1]; exact bqa (Below.refl _ _)
    have hb2 : Below w1.heap.size w1 w2 := by rw [hw2]; exact bqd (bqa (Below.refl _ _))
    have ho2 : w2.ownsRow w1.heap.size 2 1 (.slice (some ⟨w1.heap.size, 0, none⟩) 2 2) 2 (ints [a, b]) := by
      rw [hw2]
      exact ownN_below (own_lit w1 #[.int .i64 a, .int .i64 b] 2 2 rfl (by omega)) (bqd (Below.refl _ _)) (Nat.le_refl _)
    rw [← hw1, ← hs1, ← hw2]
    have HZ := Lib.hid hz; have HB1 := Lib.hid hb1; have HB2 := Lib.hid hb2; have HO2 := Lib.hid ho2; have HS1 := Lib.hid hs1
    have y1 := (H1.out.bel (bqc hb2 hb1)).cells.2
    clear hz hb1 hb2 ho2 hw1 hw2 hs1
    as_aux_lemma =>
    go_upto_region 3 with (at_builtin; go_must (refine wpList_appS Try.eltI rfl _ _ rfl w2 w1.heap.size _ 2 _ (by rfl) HO2.out A1 n1 c1 (ints xs) (by rfl) (HR1.out.below (bqc HB2.out HB1.out) (Nat.le_refl _)) ints_one HB2.out.size (by omega) ?_); rintro A3 c3 w3 ho3 hb3)
    have HO3 := Lib.hid ho3
    have HB3 : Hid (Below w1.heap.size w1 w3) := Lib.hid (HB2.out.trans hb3)
    have HBW3 : Hid (Below w.heap.size w w3) := Lib.hid (bqc HB3.out HB1.out)
    have v1 := (H2.out.bel HBW3.out).cells.2
    clear y1 ho3 hb3
    as_aux_lemma =>
    go_wp2_with (at_builtin; go_must (refine wpList_appS Try.eltI rfl _ _ rfl w3 w1.heap.size _ (2 + n1) _ (by rfl) HO3.out A2 n2 c2 (ints ys) (by rfl) (HR2.out.below HBW3.out (Nat.le_refl _)) ints_one HB3.out.size (by omega) ?_); rintro A4 c4 w4 ho4 hb4
                 have HO4 := Lib.hid ho4
                 have HB4 : Hid (Below w1.heap.size w1 w4) := Lib.hid (HB3.out.trans hb4)
                 have hzb := blk_bel HZ.out HB4.out
                 have HZ4 := Lib.hid hzb
                 have z0 := blk_cell hzb 0 rfl
                 have z1 := blk_cell hzb 1 rfl
                 have z2 := blk_cell hzb 2 rfl
                 have f0 := blk_free hzb 0
                 have f1 := blk_free hzb 1
                 have f2 := blk_free hzb 2
                 clear ho4 hb4 hzb v1)
    exact bodyPost_ret (v := prfV 7 A4 (2 + n1 + n2) c4 none 0 0) (by simp [results, Try.results53, go_sem, z0, z1, z2]) rfl ⟨A4, _, c4, rfl, by
      have h4 := own_ch HO4.out (ch_set3 w4 w.heap.size (.int .i64 7) (.slice A4 (2 + n1 + n2) c4) (.slice none 0 0)) (fun q hq e => by
        have h5 := (HO4.out.lt q hq).1
        have h6 := HS1.out
        omega)
      have h7 := ownN_base h4 (Nat.le_trans (by omega : w.heap.size ≤ w.heap.size + 1) (by rw [← HS1.out]; exact Nat.le_refl _))
      have e : ints [a, b] ++ ints xs ++ ints ys = ints ([a, b] ++ xs ++ ys) := by simp [ints]
      rw [e] at h7
      exact h7, below_ch (bqc HB4.out HB1.out) (ch_set3 w4 w.heap.size _ _ _) (fun k hk => by have e : k = w.heap.size := hk; omega) (bqc HB4.out HB1.out).size⟩
theorem pfp_ok7 {w wx : World} {r : Nat} {v0 v1 v2 : Value} {A : Option Addr} {n c b1 : Nat} {ns : List Int} (h : Below w.heap.size w wx) (ho : wx.ownsRow b1 2 1 (.slice A n c) n (ints ns)) (hb : r < b1) (hr : w.heap.size ≤ r) :
    PfP w (7, ns, [], 0) (.returned (.tuple #[prfV 7 A n c none 0 0, .int .i64 0])) (((wx.setCell ⟨r, 0, none⟩ v0).setCell ⟨r, 1, none⟩ v1).setCell ⟨r, 2, none⟩ v2) :=
  ⟨A, n, c, none, 0, 0, fun _ => False, rfl, ownN_base (own_ch ho (ch_set3 wx r v0 v1 v2) (fun q hq e => by
    have h5 := (ho.lt q hq).1
    have e2 : q = r := e
    omega)) (by omega), OwnP.nil _, by simp, by simp, below_ch h (ch_set3 wx r v0 v1 v2) (fun k hk => by have e : k = r := hk; omega) h.size⟩
set_option maxHeartbeats 4000000 in
set_option maxRecDepth 100000 in
theorem specAutomatonProof_any (w : World) (s t : Int) (A : Option Addr) (n c : Nat) (rs : List Rul) (hr : Rd w A (n * 3) (ints (flatR rs))) (hn : n ≤ 1099511627776) (a : Int) (A1 : Option Addr) (n1 c1 : Nat) (xs : List Int) (hr1 : Rd w A1 n1 (ints xs)) (b : Int) (A2 : Option Addr) (n2 c2 : Nat) (ys : List Int) (hr2 : Rd w A2 n2 (ints ys)) :
    Calls Try.prog 17 #[mchV s t A n c, dfV a A1 n1 c1, dfV b A2 n2 c2] w (PfP w (auP s t rs a xs b ys)) := by
  obtain ⟨wa, hwa⟩ : ∃ wa, wa = w.alloc (.cells #[.int .i64 s, .int .i64 t, .slice A n c] 53) := ⟨_, rfl⟩
  obtain ⟨wb, hwb⟩ : ∃ wb, wb = wa.alloc (.cells #[.int .i64 a, .slice A1 n1 c1] 55) := ⟨_, rfl⟩
  obtain ⟨wc, hwc⟩ : ∃ wc, wc = wb.alloc (.cells #[.int .i64 b, .slice A2 n2 c2] 55) := ⟨_, rfl⟩
  obtain ⟨w0, hw0⟩ : ∃ w0, w0 = wc.alloc (.cells #[.int .i64 0, .slice none 0 0, .slice none 0 0] 48) := ⟨_, rfl⟩
  have sa : wa.heap.size = w.heap.size + 1 := by rw [hwa]; simp
  have sb : wb.heap.size = w.heap.size + 1 + 1 := by rw [hwb]; simp [sa]
  have sc : wc.heap.size = w.heap.size + 1 + 1 + 1 := by rw [hwc]; simp [sb]
  have s0 : w0.heap.size = w.heap.size + 1 + 1 + 1 + 1 := by rw [hw0]; simp [sc]
  have xm : BM w0 w.heap.size s t A n c := by
    rw [hw0]; refine blk_alloc ?_ _
    rw [hwc]; refine blk_alloc ?_ _
    rw [hwb]; refine blk_alloc ?_ _
    rw [hwa]; exact box_new w _ _
  have x1 : BD w0 (w.heap.size + 1) a A1 n1 c1 := by
    rw [hw0]; refine blk_alloc ?_ _
    rw [hwc]; refine blk_alloc ?_ _
    rw [hwb, ← sa]; exact box_new wa _ _
  have x2 : BD w0 (w.heap.size + 1 + 1) b A2 n2 c2 := by
    rw [hw0]; refine blk_alloc ?_ _
    rw [hwc, ← sb]; exact box_new wb _ _
  have xz : w0.heap[w.heap.size + 1 + 1 + 1]? = some (.cells #[.int .i64 0, .slice none 0 0, .slice none 0 0] 48 (0, 0)) := by
    rw [hw0, ← sc]; exact box_new wc _ _
  have hB : Below w.heap.size w w0 := by rw [hw0]; refine bqa ?_; rw [hwc]; refine bqa ?_; rw [hwb]; refine bqa ?_; rw [hwa]; exact bqa (Below.refl _ _)
  have HM := Lib.hid xm; have H1 := Lib.hid x1; have H2 := Lib.hid x2; have HZ := Lib.hid xz; have HB := Lib.hid hB
  have HR := Lib.hid (hr.below hB (Nat.le_refl _)); have HR1 := Lib.hid (hr1.below hB (Nat.le_refl _)); have HR2 := Lib.hid (hr2.below hB (Nat.le_refl _))
  have HS0 := Lib.hid s0
  have z0 := blk_cell xz 0 rfl
  have z1 := blk_cell xz 1 rfl
  have z2 := blk_cell xz 2 rfl
  have hW : w0 = (((w.alloc (.cells #[.int .i64 s, .int .i64 t, .slice A n c] 53)).alloc (.cells #[.int .i64 a, .slice A1 n1 c1] 55)).alloc (.cells #[.int .i64 b, .slice A2 n2 c2] 55)).alloc (.cells #[.int .i64 0, .slice none 0 0, .slice none 0 0] 48) := by rw [hw0, hwc, hwb, hwa]
  have HRD := l28Ready_any w0 w.heap.size s t A n c xm rs HR.out hn (w.heap.size + 1) a A1 n1 c1 x1 xs HR1.out (w.heap.size + 1 + 1) b A2 n2 c2 x2 ys HR2.out
  obtain ⟨o1, ho1⟩ : ∃ o, o = auV s t rs a xs b ys := ⟨_, rfl⟩
  rw [← ho1] at HRD
  replace HRD := Lib.hid HRD
  have HV := Lib.hid ho1
  clear hw0 hwa hwb hwc sa sb sc s0 xm x1 x2 xz hr hr1 hr2 hB ho1 z0 z1 z2
  go_enter Try.func17, Try.ntmps17
  go_upto_region 1 with fail
  rw [← hW]
  clear hW
  go_wp2_with fail
  refine HRD.out.mono ?_
  rintro e w2 ⟨rfl, hb2⟩
  have HB2 := Lib.hid hb2
  have HBW2 : Hid (Below w.heap.size w w2) := Lib.hid (bqc hb2 HB.out)
  cases o1 with
  | false =>
    as_aux_lemma =>
    have HO : Hid (auP s t rs a xs b ys = (0, [], [], 1)) := Lib.hid (by unfold auP; rw [← HV.out]; rfl)
    have hzb := blk_bel HZ.out hb2
    have z0 := blk_cell hzb 0 rfl
    have z1 := blk_cell hzb 1 rfl
    have z2 := blk_cell hzb 2 rfl
    have f0 := blk_free hzb 0
    have f1 := blk_free hzb 1
    have f2 := blk_free hzb 2
    clear hb2 hzb
    go_wp2_with fail
    exact bodyPost_ret (v := .tuple #[prfV 0 none 0 0 none 0 0, .int .i64 1]) (by simp [results, Try.results17, go_sem, z0, z1, z2]) rfl (by rw [HO.out]; exact pfp_err HBW2.out (by omega))
  | true =>
    as_aux_lemma =>
    have hv : auV s t rs a xs b ys = true := HV.out.symm
    have hv2 := hv
    simp only [auV, Bool.and_eq_true] at hv2
    obtain ⟨⟨v1, v2⟩, v3⟩ := hv2
    have HA := Lib.hid (l28Avoids_any w2 w.heap.size s t A n c (HM.out.bel hb2) rs (HR.out.below hb2 (Nat.le_refl _)) v1 (w.heap.size + 1) a A1 n1 c1 (H1.out.bel hb2) xs (HR1.out.below hb2 (Nat.le_refl _)) v2 (w.heap.size + 1 + 1) b A2 n2 c2 (H2.out.bel hb2) ys (HR2.out.below hb2 (Nat.le_refl _)) v3)
    have HN1 : Hid (n1 ≤ 1000) := Lib.hid (by
      have h1 := (HR1.out.1)
      obtain ⟨hs, ha, hl, _⟩ := dfB_all v2
      have e4 := mul_bd (show 0 ≤ a by omega) ha.2 (show 0 ≤ s by omega) hs.2
      simp only [List.length_map] at h1
      omega)
    have HN2 : Hid (n2 ≤ 1000) := Lib.hid (by
      have h1 := (HR2.out.1)
      obtain ⟨hs, ha, hl, _⟩ := dfB_all v3
      have e4 := mul_bd (show 0 ≤ b by omega) ha.2 (show 0 ≤ s by omega) hs.2
      simp only [List.length_map] at h1
      omega)
    have HO2 : Hid (auP s t rs a xs b ys = if avA s rs xs ys then (7, [a, b] ++ xs ++ ys, [], 0) else (0, [], [], 6)) := Lib.hid (by unfold auP; rw [hv]; rfl)
    obtain ⟨o2, ho2⟩ : ∃ o, o = avA s rs xs ys := ⟨_, rfl⟩
    have HA' := HA.out
    rw [← ho2] at HA'
    replace HA := Lib.hid HA'
    have HW := Lib.hid ho2
    clear hb2 hv v1 v2 v3 HA' ho2
    go_wp2_with fail
    refine HA.out.mono ?_
    rintro e w3 ⟨rfl, hb3⟩
    have HB3 := Lib.hid hb3
    have HB23 : Hid (Below w0.heap.size w0 w3) := Lib.hid (bqc hb3 HB2.out)
    have HBW3 : Hid (Below w.heap.size w w3) := Lib.hid (bqc HB23.out HB.out)
    clear hb3
    cases o2 with
    | false =>
      as_aux_lemma =>
      have HO : Hid (auP s t rs a xs b ys = (0, [], [], 6)) := Lib.hid (by rw [HO2.out, ← HW.out]; rfl)
      have hzb := blk_bel HZ.out HB23.out
      have z0 := blk_cell hzb 0 rfl
      have z1 := blk_cell hzb 1 rfl
      have z2 := blk_cell hzb 2 rfl
      have f0 := blk_free hzb 0
      have f1 := blk_free hzb 1
      have f2 := blk_free hzb 2
      clear hzb
      go_wp2_with fail
      exact bodyPost_ret (v := .tuple #[prfV 0 none 0 0 none 0 0, .int .i64 6]) (by simp [results, Try.results17, go_sem, z0, z1, z2]) rfl (by rw [HO.out]; exact pfp_err HBW3.out (by omega))
    | true =>
      as_aux_lemma =>
      have HO : Hid (auP s t rs a xs b ys = (7, [a, b] ++ xs ++ ys, [], 0)) := Lib.hid (by rw [HO2.out, ← HW.out]; rfl)
      have HP := Lib.hid (l28Proof_any w3 (w.heap.size + 1) a A1 n1 c1 (H1.out.bel HB23.out) xs (HR1.out.below HB23.out (Nat.le_refl _)) HN1.out (w.heap.size + 1 + 1) b A2 n2 c2 (H2.out.bel HB23.out) ys (HR2.out.below HB23.out (Nat.le_refl _)) HN2.out)
      go_wp2_with fail
      refine HP.out.mono ?_
      rintro e w4 ⟨A4, n4, c4, rfl, ho4, hb4⟩
      have HO4 := Lib.hid ho4
      have HB4 : Hid (Below w0.heap.size w0 w4) := Lib.hid (bqc hb4 HB23.out)
      have HLT : Hid (w.heap.size + 1 + 1 + 1 < w3.heap.size) := Lib.hid (by have h1 := HB23.out.size; have h2 := HS0.out; omega)
      have hzb := blk_bel HZ.out HB4.out
      have z0 := blk_cell hzb 0 rfl
      have z1 := blk_cell hzb 1 rfl
      have z2 := blk_cell hzb 2 rfl
      have f0 := blk_free hzb 0
      have f1 := blk_free hzb 1
      have f2 := blk_free hzb 2
      clear hzb ho4 hb4
      go_wp2_with fail
      exact bodyPost_ret (v := .tuple #[prfV 7 A4 n4 c4 none 0 0, .int .i64 0]) (by simp [results, Try.results17, go_sem, z0, z1, z2]) rfl (by rw [HO.out]; exact pfp_ok7 (bqc HB4.out HB.out) HO4.out HLT.out (by omega))
end Go.Proofs.Ytcpkhhammafchaa
