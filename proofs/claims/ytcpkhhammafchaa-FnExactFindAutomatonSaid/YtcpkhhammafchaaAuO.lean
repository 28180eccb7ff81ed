/- Automata (program): the abstractions to which one leads. Written by mk_auo.py. -/
import Derived.Test.YtcpkhhammafchaaAuK
import Derived.Test.YtcpkhhammafchaaAuS
namespace Go.Proofs.Ytcpkhhammafchaa
open Go.RowKit
set_option linter.unusedVariables false
set_option linter.unusedSimpArgs false
attribute [local go_sem ↓] Go.wp_at_zero Go.wp_at_succ
theorem FndX.bel {w w1 w2 : World} {lo gs mB gl : Nat} {L : List (List Int)} (h : FndX w lo gs mB gl L w1) (hb : Below w1.heap.size w1 w2) (hlo : lo ≤ w.heap.size) : FndX w lo gs mB gl L w2 := by
  obtain ⟨A, n, c, h1, h2, h3⟩ := h
  exact ⟨A, n, c, h1.below hb, h2.trans (OT.below hb), h3.trans (hb.mono (Nat.le_trans hlo h3.size))⟩
theorem FndS.x {w w1 : World} {lo gs mB gl n c : Nat} {A : Option Addr} {L : List (List Int)} (h : FndS w lo gs mB gl A n c L) (hb : Below w.heap.size w w1) (hlo : lo ≤ w.heap.size) : FndX w lo gs mB gl L w1 :=
  ⟨A, n, c, h.below hb, OT.below hb, hb.mono hlo⟩
abbrev fndV (gs gl : Nat) : Value := .func (.func 147) #[] #[.pointer (some ⟨gs, 0, none⟩), .pointer (some ⟨gl, 0, none⟩)]
set_option maxHeartbeats 400000 in
theorem to_any (w : World) (st : Int) (A : Option Addr) (n c : Nat) (xs : List Int) (hr : Rd w A n (ints xs)) (q cc s : Int) (k : Nat) (v : Int) (hk : q * s + cc = (k : Int)) (hg : xs[k]? = some v) (h1 : 0 ≤ q * s ∧ q * s ≤ 1000000) (h2 : k ≤ 1000000) :
    Calls Try.prog 165 #[dfV st A n c, .int .i64 q, .int .i64 cc, .int .i64 s] w (RetV w (.int .i64 v)) := by
  have w1 := wr_of h1.1 (by omega)
  have w2' : IntKind.i64.wrap (q * s + cc) = (k : Int) := (wr_of (x := q * s + cc) (by omega) (by omega)).trans hk
  have hkn : k < n := by have h3 := hr.1; simp only [List.length_map] at h3; rw [← h3]; exact (List.getElem?_eq_some_iff.1 hg).1
  have i1 : (0 : Int) ≤ (k : Int) := by omega
  have i2 : (k : Int) < (n : Int) := by omega
  obtain ⟨b, o, rfl, hb, q0⟩ := hr.at_ (ints_get hg)
  have q0' := cell_alX (o := .cells #[.int .i64 st, .slice (some ⟨b, o, none⟩) n c] 55) q0
  clear hr hk hg h1 h2 hkn hb
  go_enter Try.func165, Try.ntmps165
  go_wp2_with fail
  go_ret
  exact ⟨rfl, below_new _ _⟩
set_option maxHeartbeats 4000000 in
theorem vis1_any (w : World) (lo gs mB gl : Nat) (A : Option Addr) (n c : Nat) (L : List (List Int)) (h : FndS w lo gs mB gl A n c L) (hlo : lo ≤ w.heap.size) (g5 g8 g9 : Nat) (ra mv rc v u y : Int)
    (h5 : w.heap[g5]? = some (.cells #[fndV gs gl] 206 (0, 0))) (h8 : w.heap[g8]? = some (.cells #[.int .i64 ra, .int .i64 mv, .int .i64 rc] 154 (0, 0))) (h9 : w.heap[g9]? = some (.cells #[.int .i64 v] 2 (0, 0))) (hx : KyA [v, rc, y, u]) (hn : n ≤ 10000) :
    Calls Try.prog 167 #[.int .i64 u, .int .i64 y, .pointer (some ⟨g5, 0, none⟩), .pointer (some ⟨g9, 0, none⟩), .pointer (some ⟨g8, 0, none⟩)] w (fun r w' => r = .returned (.tuple #[]) ∧ FndX w lo gs mB gl (addA L [v, rc, y, u]) w') := by
  have x0 := blk_cell h5 0 rfl
  have y2 := blk_cell h8 2 rfl
  have v0 := blk_cell h9 0 rfl
  have HF := Lib.hid (find_any w lo gs mB gl A n c L h hlo v rc y u hx hn)
  clear h h5 h8 h9 hx
  go_enter Try.func167, Try.ntmps167
  go_wp2_with (go_at_call 147; refine HF.out.mono ?_; rintro e w2 ⟨rfl, hx2⟩)
  go_end0
  exact ⟨rfl, hx2⟩
set_option maxHeartbeats 4000000 in
theorem vis2_any (w : World) (lo gs mB gl : Nat) (A : Option Addr) (n c : Nat) (L : List (List Int)) (h : FndS w lo gs mB gl A n c L) (hlo : lo ≤ w.heap.size) (g5 g8 g9 : Nat) (ra mv rc v u y : Int)
    (h5 : w.heap[g5]? = some (.cells #[fndV gs gl] 206 (0, 0))) (h8 : w.heap[g8]? = some (.cells #[.int .i64 ra, .int .i64 mv, .int .i64 rc] 154 (0, 0))) (h9 : w.heap[g9]? = some (.cells #[.int .i64 v] 2 (0, 0))) (hx : KyA [u, rc, y, v]) (hn : n ≤ 10000) :
    Calls Try.prog 168 #[.int .i64 u, .int .i64 y, .pointer (some ⟨g5, 0, none⟩), .pointer (some ⟨g8, 0, none⟩), .pointer (some ⟨g9, 0, none⟩)] w (fun r w' => r = .returned (.tuple #[]) ∧ FndX w lo gs mB gl (addA L [u, rc, y, v]) w') := by
  have x0 := blk_cell h5 0 rfl
  have y2 := blk_cell h8 2 rfl
  have v0 := blk_cell h9 0 rfl
  have HF := Lib.hid (find_any w lo gs mB gl A n c L h hlo u rc y v hx hn)
  clear h h5 h8 h9 hx
  go_enter Try.func168, Try.ntmps168
  go_wp2_with (go_at_call 147; refine HF.out.mono ?_; rintro e w2 ⟨rfl, hx2⟩)
  go_end0
  exact ⟨rfl, hx2⟩
set_option maxHeartbeats 8000000 in
set_option maxRecDepth 100000 in
theorem ori1_any (w0 w : World) (hb0 : Below w0.heap.size w0 w) (gs mB gl : Nat) (A : Option Addr) (n c : Nat) (L : List (List Int)) (h : FndS w w0.heap.size gs mB gl A n c L) (hL : L.length ≤ 5000) (g5 g8 g9 : Nat) (ra mv rc v : Int)
    (h5 : w.heap[g5]? = some (.cells #[fndV gs gl] 206 (0, 0))) (h8 : w.heap[g8]? = some (.cells #[.int .i64 ra, .int .i64 mv, .int .i64 rc] 154 (0, 0))) (h9 : w.heap[g9]? = some (.cells #[.int .i64 v] 2 (0, 0)))
    (st : Int) (Ad : Option Addr) (nd cd : Nat) (xs : List Int) (hr : Rd w0 Ad nd (ints xs)) (hnd : nd ≤ 1000) (tv s : Int) (hs : 2 ≤ s ∧ s ≤ 6) (hk : ∀ k : Nat, k < nd → KyA (nxR s ⟨ra, mv, rc⟩ v k)) :
    Calls Try.prog 166 #[dfV st Ad nd cd, .int .i64 tv, .int .i64 s, .func (.func 167) #[] #[.pointer (some ⟨g5, 0, none⟩), .pointer (some ⟨g9, 0, none⟩), .pointer (some ⟨g8, 0, none⟩)]] w (fun r w' => r = .returned (.tuple #[]) ∧ FndX w w0.heap.size gs mB gl (((fromD xs tv).map (nxR s ⟨ra, mv, rc⟩ v)).foldl addA L) w') := by
  obtain ⟨w1, hw1⟩ : ∃ w1, w1 = w.alloc (.cells #[.int .i64 st, .slice Ad nd cd] 55) := ⟨_, rfl⟩
  have hb1 : Below w.heap.size w w1 := by rw [hw1]; exact below_new _ _
  have hz : w1.heap[w.heap.size]? = some (.cells #[.int .i64 st, .slice Ad nd cd] 55 (0, 0)) := by rw [hw1]; exact box_new w _ _
  have z1 := blk_cell hz 1 rfl
  have HLO : Hid (w0.heap.size ≤ w.heap.size) := Lib.hid hb0.size
  have HX1 := Lib.hid (h.x hb1 HLO.out)
  have HS1 := Lib.hid (h.below hb1)
  have H5 := Lib.hid (blk_bel h5 hb1); have H8 := Lib.hid (blk_bel h8 hb1); have H9 := Lib.hid (blk_bel h9 hb1)
  have HB1 : Hid (Below w0.heap.size w0 w1) := Lib.hid (bqc hb1 hb0)
  have HLO1 : Hid (w0.heap.size ≤ w1.heap.size) := Lib.hid HB1.out.size
  have HEL : Hid (xs.length = nd) := Lib.hid (by have h1 := hr.1; simpa using h1)
  have HR := Lib.hid hr; have HK := Lib.hid hk
  have HI1 : Hid (FndX w1 w0.heap.size gs mB gl L w1) := Lib.hid (HS1.out.x (Below.refl _ _) HLO1.out)
  clear h hb0 h5 h8 h9 hb1 hz hr hk
  go_enter Try.func166, Try.ntmps166
  go_upto_region 1 with fail
  rw [← hw1]
  clear hw1
  go_wp2_with fail
  clear z1
  go_loopw [13] (fun i wr => ∃ k : Nat, k ≤ nd ∧ i = .int .i64 k ∧ Hid (FndX w1 w0.heap.size gs mB gl (((fromK xs tv k).map (nxR s ⟨ra, mv, rc⟩ v)).foldl addA L) wr)) (fun i _ => nd - (intOf i).toNat)
  case atStart => exact ⟨0, Nat.zero_le _, rfl, HI1⟩
  case round =>
    as_aux_lemma =>
    obtain ⟨k, hk, rfl, HX⟩ := hrel
    obtain ⟨L1, hL1⟩ : ∃ L1, L1 = ((fromK xs tv k).map (nxR s ⟨ra, mv, rc⟩ v)).foldl addA L := ⟨_, rfl⟩
    have HLB : Hid (L1.length ≤ 10000) := Lib.hid (by
      have h1 := (addF_len (zs := (fromK xs tv k).map (nxR s ⟨ra, mv, rc⟩ v)) (L := L)).2
      rw [← hL1, List.length_map] at h1
      have h2 := fromK_len xs tv k
      omega)
    have HLL := Lib.hid hL1
    rw [← hL1] at HX
    clear hL1
    by_cases hlt : k < nd
    · as_aux_lemma =>
      have HLT := Lib.hid hlt
      have hlti : (k : Int) < (nd : Int) := by omega
      have hk0 : (0 : Int) ≤ (k : Int) := by omega
      obtain ⟨x, hx⟩ := get_some (xs := xs) (k := k) (by rw [HEL.out]; exact hlt)
      obtain ⟨A2, n2, c2, hs2, hot2, hb2⟩ := HX.out
      have hrd := HR.out.below (HB1.out.trans hb2) (Nat.le_refl _)
      obtain ⟨bE, oE, hAE, hbE, q0⟩ := hrd.at_ (ints_get hx)
      subst hAE
      have HXX := Lib.hid hx
      by_cases hxe : x = tv
      · as_aux_lemma =>
        have HXE := Lib.hid hxe
        have hcmp : (x == tv) = true := by rw [hxe]; simp
        have hd : Below wr.heap.size wr wr.drew := bqd (Below.refl _ _)
        have HV := Lib.hid (vis1_any wr.drew w0.heap.size gs mB gl A2 n2 c2 L1 (hs2.below hd) (by exact (HB1.out.trans hb2).size) g5 g8 g9 ra mv rc v ((k : Int) / s) ((k : Int) % s) (blk_bel (HS1.out.keep hot2 H5.out (by decide) (by decide)) hd) (blk_bel (HS1.out.keep hot2 H8.out (by decide) (by decide)) hd) (blk_bel (HS1.out.keep hot2 H9.out (by decide) (by decide)) hd) (by have h1 := HK.out k hlt; exact h1) (by rw [← hs2.len]; exact HLB.out))
        have HXD : Hid (FndX w1 w0.heap.size gs mB gl L1 wr.drew) := Lib.hid (HX.out.bel hd HLO1.out)
        have HFL : Hid (((fromK xs tv (k + 1)).map (nxR s ⟨ra, mv, rc⟩ v)).foldl addA L = addA L1 [v, rc, (k : Int) % s, (k : Int) / s]) := Lib.hid (by rw [fromK_yes HXX.out hxe, List.map_append, List.foldl_append, HLL.out]; rfl)
        have hs0 : ¬ s = 0 := by omega
        have hq1 := (tq (i := (k : Int)) (s := s) hk0 (by omega)).1
        have hq2 := (tq (i := (k : Int)) (s := s) hk0 (by omega)).2
        have hq3 : IntKind.i64.wrap ((k : Int) / s) = (k : Int) / s := wr_of (Int.ediv_nonneg hk0 (by omega)) (Int.le_trans (Int.ediv_le_self _ hk0) (by omega))
        clear hx hs2 hot2 hb2 hrd hbE hxe hd
        go_wp2_with fail
        (first | (go_region_held3 (fun w' => True) (exact trivial) (first
          | (go_simp
             go_at_call 167
             refine HV.out.mono ?_
             rintro e w5 ⟨rfl, hx5⟩
             have HX5 := Lib.hid hx5
             clear hx5))) | fail)
        all_goals
          as_aux_lemma =>
          clear q0 hq1 hq2 hq3 hcmp
          go_wp2_with fail
          go_roundw
          case rel => exact ⟨k + 1, HLT.out, by go_num, by rw [HFL.out]; first | exact Lib.hid (HXD.out.trans HX5.out) | exact Lib.hid ((HXD.out.trans HX5.out).bel (bqd (Below.refl _ _)) HLO1.out)⟩
          case measure => have := HLT.out; simp [intOf]; omega
      · as_aux_lemma =>
        have HXE := Lib.hid hxe
        have hcmp : (x == tv) = false := by rw [beq_eq_false_iff_ne]; exact hxe
        clear hx hs2 hot2 hb2 hrd hbE hxe
        go_wp2_with fail
        go_roundw
        case rel => exact ⟨k + 1, HLT.out, by go_num, by rw [fromK_no HXX.out HXE.out, ← HLL.out]; exact HX⟩
        case measure => have := HLT.out; simp [intOf]; omega
    · as_aux_lemma =>
      have HE : Hid (L1 = ((fromD xs tv).map (nxR s ⟨ra, mv, rc⟩ v)).foldl addA L) := Lib.hid (by
        have h1 : k = xs.length := by have := HEL.out; omega
        rw [HLL.out, h1, fromK_all])
      go_wp2_with fail
      go_end0
      refine ⟨rfl, ?_⟩
      rw [← HE.out]
      exact HX1.out.trans HX.out
set_option maxHeartbeats 8000000 in
set_option maxRecDepth 100000 in
theorem ori2_any (w0 w : World) (hb0 : Below w0.heap.size w0 w) (gs mB gl : Nat) (A : Option Addr) (n c : Nat) (L : List (List Int)) (h : FndS w w0.heap.size gs mB gl A n c L) (hL : L.length ≤ 5000) (g5 g8 g9 : Nat) (ra mv rc v : Int)
    (h5 : w.heap[g5]? = some (.cells #[fndV gs gl] 206 (0, 0))) (h8 : w.heap[g8]? = some (.cells #[.int .i64 ra, .int .i64 mv, .int .i64 rc] 154 (0, 0))) (h9 : w.heap[g9]? = some (.cells #[.int .i64 v] 2 (0, 0)))
    (st : Int) (Ad : Option Addr) (nd cd : Nat) (xs : List Int) (hr : Rd w0 Ad nd (ints xs)) (hnd : nd ≤ 1000) (tv s : Int) (hs : 2 ≤ s ∧ s ≤ 6) (hk : ∀ k : Nat, k < nd → KyA (nxL s ⟨ra, mv, rc⟩ v k)) :
    Calls Try.prog 166 #[dfV st Ad nd cd, .int .i64 tv, .int .i64 s, .func (.func 168) #[] #[.pointer (some ⟨g5, 0, none⟩), .pointer (some ⟨g8, 0, none⟩), .pointer (some ⟨g9, 0, none⟩)]] w (fun r w' => r = .returned (.tuple #[]) ∧ FndX w w0.heap.size gs mB gl (((fromD xs tv).map (nxL s ⟨ra, mv, rc⟩ v)).foldl addA L) w') := by
  obtain ⟨w1, hw1⟩ : ∃ w1, w1 = w.alloc (.cells #[.int .i64 st, .slice Ad nd cd] 55) := ⟨_, rfl⟩
  have hb1 : Below w.heap.size w w1 := by rw [hw1]; exact below_new _ _
  have hz : w1.heap[w.heap.size]? = some (.cells #[.int .i64 st, .slice Ad nd cd] 55 (0, 0)) := by rw [hw1]; exact box_new w _ _
  have z1 := blk_cell hz 1 rfl
  have HLO : Hid (w0.heap.size ≤ w.heap.size) := Lib.hid hb0.size
  have HX1 := Lib.hid (h.x hb1 HLO.out)
  have HS1 := Lib.hid (h.below hb1)
  have H5 := Lib.hid (blk_bel h5 hb1); have H8 := Lib.hid (blk_bel h8 hb1); have H9 := Lib.hid (blk_bel h9 hb1)
  have HB1 : Hid (Below w0.heap.size w0 w1) := Lib.hid (bqc hb1 hb0)
  have HLO1 : Hid (w0.heap.size ≤ w1.heap.size) := Lib.hid HB1.out.size
  have HEL : Hid (xs.length = nd) := Lib.hid (by have h1 := hr.1; simpa using h1)
  have HR := Lib.hid hr; have HK := Lib.hid hk
  have HI1 : Hid (FndX w1 w0.heap.size gs mB gl L w1) := Lib.hid (HS1.out.x (Below.refl _ _) HLO1.out)
  clear h hb0 h5 h8 h9 hb1 hz hr hk
  go_enter Try.func166, Try.ntmps166
  go_upto_region 1 with fail
  rw [← hw1]
  clear hw1
  go_wp2_with fail
  clear z1
  go_loopw [13] (fun i wr => ∃ k : Nat, k ≤ nd ∧ i = .int .i64 k ∧ Hid (FndX w1 w0.heap.size gs mB gl (((fromK xs tv k).map (nxL s ⟨ra, mv, rc⟩ v)).foldl addA L) wr)) (fun i _ => nd - (intOf i).toNat)
  case atStart => exact ⟨0, Nat.zero_le _, rfl, HI1⟩
  case round =>
    as_aux_lemma =>
    obtain ⟨k, hk, rfl, HX⟩ := hrel
    obtain ⟨L1, hL1⟩ : ∃ L1, L1 = ((fromK xs tv k).map (nxL s ⟨ra, mv, rc⟩ v)).foldl addA L := ⟨_, rfl⟩
    have HLB : Hid (L1.length ≤ 10000) := Lib.hid (by
      have h1 := (addF_len (zs := (fromK xs tv k).map (nxL s ⟨ra, mv, rc⟩ v)) (L := L)).2
      rw [← hL1, List.length_map] at h1
      have h2 := fromK_len xs tv k
      omega)
    have HLL := Lib.hid hL1
    rw [← hL1] at HX
    clear hL1
    by_cases hlt : k < nd
    · as_aux_lemma =>
      have HLT := Lib.hid hlt
      have hlti : (k : Int) < (nd : Int) := by omega
      have hk0 : (0 : Int) ≤ (k : Int) := by omega
      obtain ⟨x, hx⟩ := get_some (xs := xs) (k := k) (by rw [HEL.out]; exact hlt)
      obtain ⟨A2, n2, c2, hs2, hot2, hb2⟩ := HX.out
      have hrd := HR.out.below (HB1.out.trans hb2) (Nat.le_refl _)
      obtain ⟨bE, oE, hAE, hbE, q0⟩ := hrd.at_ (ints_get hx)
      subst hAE
      have HXX := Lib.hid hx
      by_cases hxe : x = tv
      · as_aux_lemma =>
        have HXE := Lib.hid hxe
        have hcmp : (x == tv) = true := by rw [hxe]; simp
        have hd : Below wr.heap.size wr wr.drew := bqd (Below.refl _ _)
        have HV := Lib.hid (vis2_any wr.drew w0.heap.size gs mB gl A2 n2 c2 L1 (hs2.below hd) (by exact (HB1.out.trans hb2).size) g5 g8 g9 ra mv rc v ((k : Int) / s) ((k : Int) % s) (blk_bel (HS1.out.keep hot2 H5.out (by decide) (by decide)) hd) (blk_bel (HS1.out.keep hot2 H8.out (by decide) (by decide)) hd) (blk_bel (HS1.out.keep hot2 H9.out (by decide) (by decide)) hd) (by have h1 := HK.out k hlt; exact h1) (by rw [← hs2.len]; exact HLB.out))
        have HXD : Hid (FndX w1 w0.heap.size gs mB gl L1 wr.drew) := Lib.hid (HX.out.bel hd HLO1.out)
        have HFL : Hid (((fromK xs tv (k + 1)).map (nxL s ⟨ra, mv, rc⟩ v)).foldl addA L = addA L1 [(k : Int) / s, rc, (k : Int) % s, v]) := Lib.hid (by rw [fromK_yes HXX.out hxe, List.map_append, List.foldl_append, HLL.out]; rfl)
        have hs0 : ¬ s = 0 := by omega
        have hq1 := (tq (i := (k : Int)) (s := s) hk0 (by omega)).1
        have hq2 := (tq (i := (k : Int)) (s := s) hk0 (by omega)).2
        have hq3 : IntKind.i64.wrap ((k : Int) / s) = (k : Int) / s := wr_of (Int.ediv_nonneg hk0 (by omega)) (Int.le_trans (Int.ediv_le_self _ hk0) (by omega))
        clear hx hs2 hot2 hb2 hrd hbE hxe hd
        go_wp2_with fail
        (first | (go_region_held3 (fun w' => True) (exact trivial) (first
          | (go_simp
             go_at_call 168
             refine HV.out.mono ?_
             rintro e w5 ⟨rfl, hx5⟩
             have HX5 := Lib.hid hx5
             clear hx5))) | fail)
        all_goals
          as_aux_lemma =>
          clear q0 hq1 hq2 hq3 hcmp
          go_wp2_with fail
          go_roundw
          case rel => exact ⟨k + 1, HLT.out, by go_num, by rw [HFL.out]; first | exact Lib.hid (HXD.out.trans HX5.out) | exact Lib.hid ((HXD.out.trans HX5.out).bel (bqd (Below.refl _ _)) HLO1.out)⟩
          case measure => have := HLT.out; simp [intOf]; omega
      · as_aux_lemma =>
        have HXE := Lib.hid hxe
        have hcmp : (x == tv) = false := by rw [beq_eq_false_iff_ne]; exact hxe
        clear hx hs2 hot2 hb2 hrd hbE hxe
        go_wp2_with fail
        go_roundw
        case rel => exact ⟨k + 1, HLT.out, by go_num, by rw [fromK_no HXX.out HXE.out, ← HLL.out]; exact HX⟩
        case measure => have := HLT.out; simp [intOf]; omega
    · as_aux_lemma =>
      have HE : Hid (L1 = ((fromD xs tv).map (nxL s ⟨ra, mv, rc⟩ v)).foldl addA L) := Lib.hid (by
        have h1 : k = xs.length := by have := HEL.out; omega
        rw [HLL.out, h1, fromK_all])
      go_wp2_with fail
      go_end0
      refine ⟨rfl, ?_⟩
      rw [← HE.out]
      exact HX1.out.trans HX.out
end Go.Proofs.Ytcpkhhammafchaa
