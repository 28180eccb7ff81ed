/- Automata (reference): keys and steps of abstractions. Written by mk_aus.py. -/
import Derived.Test.YtcpkhhammafchaaAuV
import Derived.Test.YtcpkhhammafchaaGF
import Derived.Deep.RegionHeld3
import Derived.Deep.DrawnRows
namespace Go.Proofs.Ytcpkhhammafchaa
open Go.RowKit
set_option linter.unusedVariables false
set_option linter.unusedSimpArgs false
attribute [local go_sem ↓] Go.wp_at_zero Go.wp_at_succ
theorem rd4 {w : World} {A : Option Addr} {n : Nat} {a b c d : Int} (h : Rd w A n (ints [a, b, c, d])) : n = 4 ∧ ∃ p o, A = some ⟨p, o, none⟩ ∧ p < w.heap.size ∧ w.cell? ⟨p, o, none⟩ = some (.int .i64 a) ∧ w.cell? ⟨p, o + 1, none⟩ = some (.int .i64 b) ∧ w.cell? ⟨p, o + 2, none⟩ = some (.int .i64 c) ∧ w.cell? ⟨p, o + 3, none⟩ = some (.int .i64 d) := by
  have hn : n = 4 := by have := h.1; simpa using this.symm
  obtain ⟨p, o, e, hp, hc⟩ := h.2 (by omega)
  exact ⟨hn, p, o, e, hp, by simpa using hc 0 _ rfl, hc 1 _ rfl, hc 2 _ rfl, hc 3 _ rfl⟩
theorem wr_of {x : Int} (h1 : 0 ≤ x) (h2 : x ≤ 1000000000000) : IntKind.i64.wrap x = x := IntWalk.i64_in _ (by omega)
theorem tq {i s : Int} (h : 0 ≤ i) (hs : 0 < s) : Int.tmod i s = i % s ∧ Int.tdiv i s = i / s := ⟨Int.tmod_eq_emod_of_nonneg h, Int.tdiv_eq_ediv_of_nonneg h⟩
structure KeyF (s t a b x0 q c x3 : Int) : Prop where
  h1 : 0 ≤ x0 * t ∧ x0 * t ≤ 20000
  h2 : 0 ≤ x0 * t + q ∧ x0 * t + q ≤ 30000
  h3 : 0 ≤ (x0 * t + q) * s ∧ (x0 * t + q) * s ≤ 180000
  h4 : 0 ≤ (x0 * t + q) * s + c ∧ (x0 * t + q) * s + c ≤ 190000
  h5 : 0 ≤ ((x0 * t + q) * s + c) * b ∧ ((x0 * t + q) * s + c) * b ≤ 3800000
  h6 : 0 ≤ ((x0 * t + q) * s + c) * b + x3 ∧ ((x0 * t + q) * s + c) * b + x3 ≤ 3900000
theorem keyf {s t a b x0 q c x3 : Int} (hs : 2 ≤ s ∧ s ≤ 6) (ht : 1 ≤ t ∧ t ≤ 1000) (ha : a ≤ 20) (hb : 1 ≤ b ∧ b ≤ 20) (h0 : 0 ≤ x0 ∧ x0 < a) (h1 : 0 ≤ q ∧ q < t) (h2 : 0 ≤ c ∧ c < s) (h3 : 0 ≤ x3 ∧ x3 < b) : KeyF s t a b x0 q c x3 := by
  have e1 := mul_bd h0.1 (show x0 ≤ 20 by omega) (show 0 ≤ t by omega) ht.2
  have e2 := mul_bd (show 0 ≤ x0 * t + q by omega) (show x0 * t + q ≤ 30000 by omega) (show 0 ≤ s by omega) hs.2
  have e3 := mul_bd (show 0 ≤ (x0 * t + q) * s + c by omega) (show (x0 * t + q) * s + c ≤ 190000 by omega) (show 0 ≤ b by omega) hb.2
  exact ⟨by omega, by omega, by omega, by omega, by omega, by omega⟩
theorem take_snocN {l : List Nat} {k x : Nat} (h : l[k]? = some x) : l.take (k + 1) = l.take k ++ [x] := by rw [List.take_add_one, h]; rfl
/-- The indices below k at which a value stands. -/
def fromK (ns : List Int) (v : Int) (k : Nat) : List Nat := (List.range k).filter (fun i => decide (ns.getD i 0 = v))
theorem fromK_all (ns : List Int) (v : Int) : fromK ns v ns.length = fromD ns v := rfl
theorem fromK_yes {ns : List Int} {v : Int} {k : Nat} {x : Int} (h : ns[k]? = some x) (hx : x = v) : fromK ns v (k + 1) = fromK ns v k ++ [k] := by
  have e : ns.getD k 0 = v := by rw [List.getD_eq_getElem?_getD, h]; exact hx
  unfold fromK
  rw [List.range_succ, List.filter_append]
  simp only [List.filter_cons, List.filter_nil, e, decide_true, if_true]
theorem fromK_no {ns : List Int} {v : Int} {k : Nat} {x : Int} (h : ns[k]? = some x) (hx : ¬ x = v) : fromK ns v (k + 1) = fromK ns v k := by
  have e : ¬ ns.getD k 0 = v := by rw [List.getD_eq_getElem?_getD, h]; exact hx
  unfold fromK
  rw [List.range_succ, List.filter_append]
  simp only [List.filter_cons, List.filter_nil, e, decide_false, Bool.false_eq_true, if_false, List.append_nil]
theorem fromK_len (ns : List Int) (v : Int) (k : Nat) : (fromK ns v k).length ≤ k := by
  unfold fromK
  exact Nat.le_trans (List.length_filter_le _ _) (by simp)
theorem own4 (w : World) (a b c d : Int) : (w.alloc (.cells #[.int .i64 a, .int .i64 b, .int .i64 c, .int .i64 d] 2)).ownsRow w.heap.size 2 1 (.slice (some ⟨w.heap.size, 0, none⟩) 4 4) 4 (ints [a, b, c, d]) := own_lit w #[.int .i64 a, .int .i64 b, .int .i64 c, .int .i64 d] 4 2 rfl (by omega)
/-- An append as a step of a region. -/
theorem step_app1H {P : Program} {ops : Array Oper} {o : Oper} {a : Act} {K : Act → World → Prop} {Q : Exit → Act → World → Prop} {E : Prop} {t e : TypeId} {z : Value} {tm : Array Value} (hE : Elt P t e z) (hgd : o.guard = none) (s x : Operand)
    (ho : o.op = .call { callee := .builtin .append, args := #[s, x], argTypes := #[t, t] }) (W W' : World) (y : Value) (hW : W' = W.alloc (.cells #[y] e)) (base : Nat) (v : Value) (n : Nat) (vs : List Value) (hs : a.eval s = v) (hown : W.ownsRow base e 1 v n vs)
    (hy : y.oneCell' = true) (hx : a.eval x = .slice (some ⟨W.heap.size, 0, none⟩) 1 1) (hbase : base ≤ W.heap.size) (hn : n ≤ 1099511627776)
    (h : ∀ A c w', w'.ownsRow base e 1 (.slice A (n + 1) c) (n + 1) (vs ++ [y]) → W.grownBy w' v.ownBlock → K (a.put o.dst (.slice A (n + 1) c)) w') :
    if Region.wanted o (yielded ops tm) = true then Oper.wp P o a W' K Q else E := by
  have hw : Region.wanted o (yielded ops tm) = true := by simp [Region.wanted, hgd]
  rw [if_pos hw]
  subst hW
  obtain ⟨ht, hzc, i, hi, hz, hs1, hb⟩ := hE
  have hbn : (n + 1) * i.bytes ≤ (n + 1) * 24 := Nat.mul_le_mul_left _ hb
  obtain ⟨v', w', hrun, h2, h3, _⟩ := run_append_own (P := P) (W.alloc (.cells #[y] e)) base t o.type e i z 1 i.bytes ht hi hz hs1 rfl (by rw [hzc]; rfl) (by decide) v n vs (hown.alloc _) ⟨W.heap.size, 0, none⟩ 1 1 [y] rfl (cell_one_new _ _ _) (by simpa using hy) (by unfold maxLen; omega) (by omega) (by simp; omega)
  unfold Oper.wp
  obtain ⟨A, c, rfl, _, _⟩ := own_form h2
  simp [execOp, ho, resolve, invoke, builtin, hs, hx, hrun, Result.andThen]
  exact h A c w' h2 (grown_alloc_trans h3)
theorem rbx {a W : World} {cs : Array Value} {T : Nat} (h : Below (a.alloc (.cells cs T)).heap.size (a.alloc (.cells cs T)) W) : W.heap[a.heap.size]? = some (.cells cs T (0, 0)) := blk_bel (box_new a cs T) h
theorem bqd {a W : World} (h : Below a.heap.size a W) : Below a.heap.size a W.drew := ⟨h.os, h.tape, h.output, h.size, h.block⟩
theorem bqa {a W : World} {o : Obj} (h : Below a.heap.size a W) : Below a.heap.size a (W.alloc o) := h.alloc h.size _
theorem bqc {a V W : World} (hc : Below V.heap.size V W) (h : Below a.heap.size a V) : Below a.heap.size a W := h.trans (hc.mono h.size)
theorem cell_alX {w : World} {p : Addr} {v : Value} {o : Obj} (h : w.cell? p = some v) : (w.alloc o).cell? p = some v := (World.cell?_alloc_some w p o (by rw [h]; rfl)).trans h
theorem mvR {r : Rul} (h : isR r = false) : r = ⟨0, 0, -1⟩ := by
  exact Decidable.not_not.1 (of_decide_eq_false h)
set_option maxHeartbeats 4000000 in
set_option maxRecDepth 100000 in
theorem l28Key_any (w : World) (gm : Nat) (s t : Int) (A : Option Addr) (n c : Nat) (hm : BM w gm s t A n c) (hs : 2 ≤ s ∧ s ≤ 6) (ht : 1 ≤ t ∧ t ≤ 1000) (V1 : Value) (a : Int) (ha : a ≤ 20) (g2 : Nat) (b : Int) (A2 : Option Addr) (n2 c2 : Nat) (h2 : BD w g2 b A2 n2 c2) (hb : 1 ≤ b ∧ b ≤ 20) (A5 : Option Addr) (n5 c5 : Nat) (x : List Int) (hr5 : Rd w A5 n5 (ints x)) (hx : okA s t a b x) :
    Calls Try.prog 141 #[.pointer (some ⟨gm, 0, none⟩), V1, .pointer (some ⟨g2, 0, none⟩), .slice A5 n5 c5] w (DrP w (.int .i64 (keyA s t b x))) := by
  obtain ⟨x0, q, cc, x3, rfl, k0, k1, k2, k3⟩ := hx
  have hk := keyf hs ht ha hb k0 k1 k2 k3
  obtain ⟨rfl, p5, o5, rfl, hp5, r0, r1, r2, r3⟩ := rd4 hr5
  obtain ⟨z0, z1, z2⟩ := hm.cells
  obtain ⟨y0, y1⟩ := h2.cells
  have w1 := wr_of hk.h1.1 (by have := hk.h1.2; omega)
  have w2 := wr_of hk.h2.1 (by have := hk.h2.2; omega)
  have w3 := wr_of hk.h3.1 (by have := hk.h3.2; omega)
  have w4 := wr_of hk.h4.1 (by have := hk.h4.2; omega)
  have w5 := wr_of hk.h5.1 (by have := hk.h5.2; omega)
  have w6 := wr_of hk.h6.1 (by have := hk.h6.2; omega)
  have HO : Hid (keyA s t b [x0, q, cc, x3] = ((x0 * t + q) * s + cc) * b + x3) := Lib.hid rfl
  clear hk hr5 hm h2 hs ht ha hb k0 k1 k2 k3 hp5 z2 y1
  go_enter Try.func141, Try.ntmps141
  go_wp2_with fail
  go_quiet (fail)
  go_wp2_with fail
  go_ret
  exact ⟨by rw [HO.out]; rfl, _, rfl⟩
set_option maxHeartbeats 16000000 in
set_option maxRecDepth 100000 in
theorem l28Steps_any (w : World) (gm : Nat) (s t : Int) (A : Option Addr) (n c : Nat) (hm : BM w gm s t A n c) (rs : List Rul) (hr : Rd w A (n * 3) (ints (flatR rs))) (hok : okM s t rs = true) (g1 : Nat) (a : Int) (A1 : Option Addr) (n1 c1 : Nat) (h1 : BD w g1 a A1 n1 c1) (xs : List Int) (hr1 : Rd w A1 n1 (ints xs)) (hx : dfB a xs s = true) (g2 : Nat) (b : Int) (A2 : Option Addr) (n2 c2 : Nat) (h2 : BD w g2 b A2 n2 c2) (ys : List Int) (hr2 : Rd w A2 n2 (ints ys)) (hy : dfB b ys s = true) (A5 : Option Addr) (n5 c5 : Nat) (x : List Int) (hr5 : Rd w A5 n5 (ints x)) (ho : okA s t a b x) :
    Calls Try.prog 140 #[.pointer (some ⟨gm, 0, none⟩), .pointer (some ⟨g1, 0, none⟩), .pointer (some ⟨g2, 0, none⟩), .slice A5 n5 c5] w (RetP w (succA s rs xs ys x)) := by
  have HM := Lib.hid hm; have H1 := Lib.hid h1; have H2 := Lib.hid h2; have HR1 := Lib.hid hr1; have HR2 := Lib.hid hr2; have HX := Lib.hid hx; have HY := Lib.hid hy; have HOA := Lib.hid ho; have HOK := Lib.hid hok
  obtain ⟨kr, hkr, hgr, hkr2⟩ := rule_a hok ho
  obtain ⟨⟨ra, mv, rc⟩, hru⟩ : ∃ r : Rul, r = ruleA s rs x := ⟨_, rfl⟩
  have HRU := Lib.hid hru
  rw [← hru] at hgr
  have hrl : rs.length = n := by have := hr.1; simp [flatR_len] at this; omega
  have hkn : kr < n := by rw [← hrl]; exact (List.getElem?_eq_some_iff.1 hgr).1
  have hkn3 : kr * 3 + 2 < n * 3 := by omega
  obtain ⟨p0r, p1r, p2r⟩ := flatR_get hgr
  obtain ⟨bR, oR, hAR, hbR, hcR⟩ := hr.2 (by omega)
  have p0 := hcR _ _ (ints_get p0r)
  have p1 := hcR _ _ (ints_get p1r)
  have p2 := hcR _ _ (ints_get p2r)
  simp only [← Nat.add_assoc] at p0 p1 p2
  obtain ⟨x0, q, cc, x3, rfl, k0, k1, k2, k3⟩ := ho
  have hki : q * s + cc = (kr : Int) := hkr
  obtain ⟨hs, ht, _⟩ := okM_all hok
  have hqs : 0 ≤ q * s ∧ q * s ≤ 6000 := mul_bd (c := 1000) (d := 6) (by omega) (by omega) (by omega) (by omega)
  obtain ⟨rfl, p5, o5, rfl, hp5, r0, r1, r2, r3⟩ := rd4 hr5
  subst hAR
  have HP5 := Lib.hid hp5
  have HC0 := Lib.hid r0; have HC3 := Lib.hid r3
  have HKX := Lib.hid k0; have HK3 := Lib.hid k3
  have HS2 := Lib.hid hs
  obtain ⟨z0, z1, z2⟩ := hm.cells
  have w1 := wr_of hqs.1 (by omega)
  have w2' : IntKind.i64.wrap (q * s + cc) = (kr : Int) := (wr_of (x := q * s + cc) (by omega) (by omega)).trans hki
  have i1 : (0 : Int) ≤ (kr : Int) := by omega
  have i2 : (kr : Int) < (n : Int) := by omega
  have HB0 : Hid (Below w.heap.size w w) := Lib.hid (Below.refl _ _)
  clear hr hr1 hr2 hr5 hm h1 h2 hx hy hok hgr hru hrl p0r p1r p2r hcR k0 k1 k2 k3 hs ht hqs hkr hkr2 hkn3 hp5 z1 hbR hki
  go_enter Try.func140, Try.ntmps140
  go_upto_region 1 with fail
  go_cut [9] from 15 to 32 (fun s9 wx => ∃ g9 : Nat, s9 = .pointer (some ⟨g9, 0, none⟩) ∧ wx.heap[g9]? = some (.cells #[.int .i64 ra, .int .i64 mv, .int .i64 rc] 154 (0, 0)) ∧ w.heap.size ≤ g9 ∧ Below w.heap.size w wx)
  case first =>
    as_aux_lemma =>
    (first | (go_region_held3 (fun w' => w'.cell? ⟨gm, 0, none⟩ = some (.int .i64 s) ∧ w'.cell? ⟨gm, 2, none⟩ = some (.slice (some ⟨bR, oR, none⟩) n c) ∧ w'.cell? ⟨p5, o5 + 1, none⟩ = some (.int .i64 q) ∧ w'.cell? ⟨p5, o5 + 2, none⟩ = some (.int .i64 cc) ∧ w'.cell? ⟨bR, oR + kr * 3, none⟩ = some (.int .i64 ra) ∧ w'.cell? ⟨bR, oR + kr * 3 + 1, none⟩ = some (.int .i64 mv) ∧ w'.cell? ⟨bR, oR + kr * 3 + 2, none⟩ = some (.int .i64 rc)) (first | exact ⟨z0, z2, r1, r2, p0, p1, p2⟩ | go_keep) (fail)) | fail)
    all_goals
      go_wp2_with fail
      go_meet
      exact ⟨_, rfl, rbx (by first | exact Below.refl _ _ | exact bqd (Below.refl _ _)), Nat.le_refl _, by first | exact bqd (bqa (Below.refl _ _)) | exact bqa (Below.refl _ _) | exact bqa (bqd (Below.refl _ _))⟩
  case rest =>
    as_aux_lemma =>
    obtain ⟨g9, rfl, hx9, hg9, hb2⟩ := hcut
    obtain ⟨w2, rfl⟩ : ∃ v, v = wc := ⟨_, rfl⟩
    have HX9 := Lib.hid hx9; have HG9 := Lib.hid hg9; have HB2 := Lib.hid hb2
    have HL9 : Hid (g9 < w2.heap.size) := Lib.hid (blk_lt hx9)
    have HBO := Lib.hid (Bld.nil w2 25 rfl)
    obtain ⟨w3, hw3⟩ : ∃ w3, w3 = w2.alloc (.cells #[] 25) := ⟨_, rfl⟩
    rw [← hw3] at HBO
    have HB3 : Hid (Below w2.heap.size w2 w3) := Lib.hid (by rw [hw3]; exact below_new _ _)
    clear hx9 hg9 hb2 z0 z2 r0 r1 r2 r3 p0 p1 p2 w1 w2' i1 i2
    go_upto_region 3 with fail
    rw [← hw3]
    clear hw3
    obtain ⟨bo, hbo⟩ : ∃ bo, bo = isR ⟨ra, mv, rc⟩ := ⟨_, rfl⟩
    have HBI := Lib.hid hbo
    clear hbo
    cases bo with
    | false =>
      as_aux_lemma =>
      have HSA : Hid (succA s rs xs ys [x0, q, cc, x3] = []) := Lib.hid (by unfold succA; rw [← HRU.out, ← HBI.out]; rfl)
      obtain ⟨rfl, rfl, rfl⟩ : ra = 0 ∧ mv = 0 ∧ rc = -1 := by
        have h := mvR HBI.out.symm
        injection h with h1 h2 h3
        exact ⟨h1, h2, h3⟩
      have h3 := blk_bel HX9.out HB3.out
      have z0 := blk_cell h3 0 rfl
      have z1 := blk_cell h3 1 rfl
      have z2 := blk_cell h3 2 rfl
      clear h3
      go_wp2_with fail
      (first | (go_region_held3 (fun w' => w'.cell? ⟨g9, 0, none⟩ = some (.int .i64 0) ∧ w'.cell? ⟨g9, 1, none⟩ = some (.int .i64 (0)) ∧ w'.cell? ⟨g9, 2, none⟩ = some (.int .i64 (-1))) (exact ⟨by assumption, by assumption, by assumption⟩) (first
        | (go_simp
           go_at_call 103
           refine (l05None_any _).mono ?_
           rintro e w4 ⟨rfl, hb4⟩
           replace hb4 := und1 hb4
           have h4 := blk_bel (blk_bel HX9.out HB3.out) hb4
           clear z0 z1 z2
           have z0 := blk_cell h4 0 rfl
           have z1 := blk_cell h4 1 rfl
           have z2 := blk_cell h4 2 rfl
           have HX94 := Lib.hid h4
           have HB4 : Hid (Below w3.heap.size w3 w4) := Lib.hid hb4
           clear hb4 h4))) | fail)
      all_goals
        as_aux_lemma =>
        go_wp2_with fail
        go_ret
        rw [HSA.out]
        exact ⟨_, _, _, _, rfl, (HBO.out.below HB4.out).ownp, fun q hq => ⟨Nat.le_trans HB2.out.size hq.1, hq.2⟩, bqc HB4.out (bqc HB3.out HB2.out)⟩
    | true =>
      as_aux_lemma =>
      obtain ⟨hwr, hmv, hnx⟩ := isR_a HOK.out HOA.out (by rw [← HRU.out]; exact HBI.out.symm)
      rw [← HRU.out] at hwr hmv hnx
      simp only at hwr hmv hnx
      have HWR := Lib.hid hwr
      clear hwr hnx
      rcases hmv with rfl | rfl
      · as_aux_lemma =>
        have hne : ((0 : Int) == (1 : Int)) = false := by decide
        have h3 := blk_bel HX9.out HB3.out
        have z0 := blk_cell h3 0 rfl
        have z1 := blk_cell h3 1 rfl
        have z2 := blk_cell h3 2 rfl
        clear h3
        go_wp2_with fail
        (first | (go_region_held3 (fun w' => w'.cell? ⟨g9, 0, none⟩ = some (.int .i64 ra) ∧ w'.cell? ⟨g9, 1, none⟩ = some (.int .i64 (1)) ∧ w'.cell? ⟨g9, 2, none⟩ = some (.int .i64 rc)) (exact ⟨by assumption, by assumption, by assumption⟩) (first
          | (go_simp
             go_at_call 103
             refine (l05None_any _).mono ?_
             rintro e w4 ⟨rfl, hb4⟩
             replace hb4 := und1 hb4
             have h4 := blk_bel (blk_bel HX9.out HB3.out) hb4
             clear z0 z1 z2
             have z0 := blk_cell h4 0 rfl
             have z1 := blk_cell h4 1 rfl
             have z2 := blk_cell h4 2 rfl
             have HX94 := Lib.hid h4
             have HB4 : Hid (Below w3.heap.size w3 w4) := Lib.hid hb4
             clear hb4 h4))) | fail)
        all_goals
          as_aux_lemma =>
          obtain ⟨kd, hkd, hgd, hkd2, hqs, hvd⟩ := to_a (ns := xs) HX.out HKX.out HWR.out
          obtain ⟨v, hv⟩ : ∃ v, v = xs.getD (x0 * s + ra).toNat 0 := ⟨_, rfl⟩
          have HVV := Lib.hid hv
          rw [← hv] at hgd
          have HB24 : Hid (Below w2.heap.size w2 w4) := Lib.hid (bqc HB4.out HB3.out)
          have HBW4 : Hid (Below w.heap.size w w4) := Lib.hid (bqc HB24.out HB2.out)
          have HSA : Hid (succA s rs xs ys [x0, q, cc, x3] = (fromD ys x3).map (nxR s ⟨ra, 1, rc⟩ v)) := Lib.hid (by
            unfold succA
            rw [← HRU.out, ← HBI.out, hv]
            rfl)
          have hrd := HR1.out.below HBW4.out (Nat.le_refl _)
          obtain ⟨bD, oD, hAD, hbD, q0⟩ := hrd.at_ (ints_get hgd)
          have hkn : kd < n1 := by have h1 := hrd.1; simp only [List.length_map] at h1; rw [← h1]; exact (List.getElem?_eq_some_iff.1 hgd).1
          have i1 : (0 : Int) ≤ (kd : Int) := by omega
          have i2 : (kd : Int) < (n1 : Int) := by omega
          have w1 := wr_of hqs.1 (by omega)
          have w2' : IntKind.i64.wrap (x0 * s + ra) = (kd : Int) := (wr_of (x := x0 * s + ra) (by omega) (by omega)).trans hkd
          obtain ⟨y0, y1⟩ := (H1.out.bel HBW4.out).cells
          obtain ⟨u0, u1, u2⟩ := (HM.out.bel HBW4.out).cells
          have r0 := (HBW4.out.cell (p := ⟨p5, o5, none⟩) HP5.out).trans HC0.out
          have HEL : Hid (ys.length = n2) := Lib.hid (by have h1 := HR2.out.1; simpa using h1)
          have HEN : Hid (n2 ≤ 120) := Lib.hid (by
            have h1 := dfB_all HY.out
            have h2 := mul_bd (c := 20) (d := 6) (show (0 : Int) ≤ _ from (by omega : (0 : Int) ≤ b)) (by omega) (show 0 ≤ s by omega) h1.1.2
            have h3 := h1.2.2.1
            have h4 := HEL.out
            omega)
          have HBL : Hid (Bld w4 w2.heap.size (some ⟨w2.heap.size, 0, none⟩) 0 0 []) := Lib.hid (HBO.out.below HB4.out)
          clear hkd hgd hkd2 hqs hvd hv hrd hbD hkn u1 u2 y0
          subst hAD
          go_wp2_with fail
          go_quiet (fail)
          as_aux_lemma =>
          obtain ⟨w6, hw6⟩ : ∃ w6, w6 = w4.drewN nq := ⟨_, rfl⟩
          have HB46 : Hid (Below w4.heap.size w4 w6) := Lib.hid (by rw [hw6]; exact below_drewN (Below.refl _ _))
          rw [← hw6]
          clear hw6 z0 z1 z2 y1 u0 r0 q0 w1 w2' i1 i2 hne
          go_wp2_with fail
          go_loopw [10, 12] (fun o i wr => ∃ (k : Nat) (A8 : Option Addr) (m8 c8 : Nat), k ≤ n2 ∧ i = .int .i64 k ∧ o = .slice A8 m8 c8 ∧ Hid (m8 ≤ 120) ∧ Bld wr w2.heap.size A8 m8 c8 ((fromK ys x3 k).map (nxR s ⟨ra, 1, rc⟩ v)) ∧ Below w2.heap.size w2 wr) (fun _ i _ => n2 - (intOf i).toNat)
          case atStart => exact ⟨0, _, 0, 0, Nat.zero_le _, rfl, rfl, Lib.hid (by omega), HBL.out.below HB46.out, bqc HB46.out HB24.out⟩
          case round =>
            as_aux_lemma =>
            obtain ⟨k, A8, m8, c8, hk, rfl, rfl, HM8, hbl, hb⟩ := hrel
            have HBLD := Lib.hid hbl; have HBR := Lib.hid hb
            have HBWR : Hid (Below w.heap.size w wr) := Lib.hid (bqc hb HB2.out)
            have hen : n2 ≤ 120 := HEN.out
            obtain ⟨y0, y1⟩ := (H2.out.bel HBWR.out).cells
            clear hbl hb y0
            by_cases hlt : k < n2
            · have hlti : (k : Int) < (n2 : Int) := by omega
              have hk0 : (0 : Int) ≤ (k : Int) := by omega
              obtain ⟨x, hx⟩ := get_some (xs := ys) (k := k) (by rw [HEL.out]; exact hlt)
              have hrd := HR2.out.below HBWR.out (Nat.le_refl _)
              obtain ⟨bE, oE, hAE, hbE, q0⟩ := hrd.at_ (ints_get hx)
              subst hAE
              have r0 := (HBWR.out.cell (p := ⟨p5, o5 + 3, none⟩) HP5.out).trans HC3.out
              have HXX := Lib.hid hx
              clear hx hrd hbE
              by_cases hxe : x = x3
              · as_aux_lemma =>
                have HXE := Lib.hid hxe
                have hcmp : (x == x3) = true := by rw [hxe]; simp
                clear hxe
                go_wp2_with fail
                go_quiet (fail)
                as_aux_lemma =>
                obtain ⟨w7, hw7⟩ : ∃ w7, w7 = wr.drewN nq := ⟨_, rfl⟩
                have HB7 : Hid (Below wr.heap.size wr w7) := Lib.hid (by rw [hw7]; exact below_drewN (Below.refl _ _))
                rw [← hw7]
                clear hw7 q0 r0 y1 hcmp
                have h9 := blk_bel HX9.out (bqc HB7.out HBR.out)
                have z9 := blk_cell h9 2 rfl
                obtain ⟨z0, -, -⟩ := (HM.out.bel (bqc HB7.out HBWR.out)).cells
                have hs0 : ¬ s = 0 := by have := HS2.out; omega
                have hq1 := (tq (i := (k : Int)) (s := s) hk0 (by have := HS2.out; omega)).1
                have hq2 := (tq (i := (k : Int)) (s := s) hk0 (by have := HS2.out; omega)).2
                have hq3 : IntKind.i64.wrap ((k : Int) / s) = (k : Int) / s := wr_of (Int.ediv_nonneg hk0 (by have := HS2.out; omega)) (Int.le_trans (Int.ediv_le_self _ hk0) (by omega))
                clear h9
                obtain ⟨w5, hw5⟩ : ∃ w5, w5 = (w7.alloc (.cells #[.int .i64 (v), .int .i64 (rc), .int .i64 ((k : Int) % s), .int .i64 ((k : Int) / s)] 2)).drew := ⟨_, rfl⟩
                have HB75 : Hid (Below w7.heap.size w7 w5) := Lib.hid (by rw [hw5]; exact bqd (bqa (Below.refl _ _)))
                have ho5 : w5.ownsRow w7.heap.size 2 1 (.slice (some ⟨w7.heap.size, 0, none⟩) 4 4) 4 (ints [v, rc, (k : Int) % s, (k : Int) / s]) := by
                  rw [hw5]
                  exact ownN_below (own4 w7 _ _ _ _) (bqd (Below.refl _ _)) (Nat.le_refl _)
                have HLO7 : Hid (w2.heap.size ≤ w7.heap.size) := Lib.hid (bqc HB7.out HBR.out).size
                obtain ⟨us8, hu1, hu2⟩ := (HBLD.out.below HB7.out).step HB75.out ho5 (by omega) HLO7.out
                have HU1 := Lib.hid hu1; have HU2 := Lib.hid hu2
                have HB25 : Hid (Below w2.heap.size w2 w5) := Lib.hid (bqc HB75.out (bqc HB7.out HBR.out))
                have HLO5 : Hid (w2.heap.size ≤ w5.heap.size) := Lib.hid HB25.out.size
                have e0 := (HM.out.bel (bqc HB25.out HB2.out)).cells.1
                have e9 := blk_cell (blk_bel HX9.out HB25.out) 2 rfl
                have HM81 : Hid (m8 + 1 ≤ 121) := Lib.hid (by have := HM8.out; omega)
                have HFL : Hid (((fromK ys x3 (k + 1)).map (nxR s ⟨ra, 1, rc⟩ v)) = (fromK ys x3 k).map (nxR s ⟨ra, 1, rc⟩ v) ++ [[v, rc, (k : Int) % s, (k : Int) / s]]) := Lib.hid (by rw [fromK_yes HXX.out HXE.out, List.map_append]; rfl)
                clear ho5 hu1 hu2
                go_wp2_with fail
                refine wp_region_held_drew (S := fun w' => w'.cell? ⟨gm, 0, none⟩ = some (.int .i64 s) ∧ w'.cell? ⟨g9, 2, none⟩ = some (.int .i64 rc)) (by kernel_rfl) ?_ (fun hHeld => ?_)
                · (first | exact ⟨z0, z9⟩ | exact ⟨cell_alX z0, cell_alX z9⟩ | exact ⟨e0, e9⟩ | exact ⟨cell_alX e0, cell_alX e9⟩ | exact ⟨j0, j9⟩ | go_keep)
                refine wpAnyH_take (i := 0) (oi := _) (v := ?_) rfl (by kernel_rfl) (by kernel_rfl) (by kernel_rfl) (fun _ _ _ h => h) (Or.inl ⟨by rfl, ?_⟩) (by assumption) ?_
                rotate_left
                · intro wS hSw
                  (try dsimp only at hSw)
                  simp only [List.getElem_toArray, List.getElem_cons_succ, List.getElem_cons_zero]
                  first | (go_simp; done) | (go_simp; with_reducible rfl)
                try simp only [Act.put, List.setIfInBounds_toArray, List.set_cons_zero, List.set_cons_succ, List.getElem_toArray, List.getElem_cons_succ, List.getElem_cons_zero]
                refine wpAnyH_take (i := 1) (oi := _) (v := ?_) rfl (by kernel_rfl) (by kernel_rfl) (by kernel_rfl) (fun _ _ _ h => h) (Or.inl ⟨by rfl, ?_⟩) (by assumption) ?_
                rotate_left
                · intro wS hSw
                  (try dsimp only at hSw)
                  simp only [List.getElem_toArray, List.getElem_cons_succ, List.getElem_cons_zero]
                  first | (go_simp; done) | (go_simp; with_reducible rfl)
                try simp only [Act.put, List.setIfInBounds_toArray, List.set_cons_zero, List.set_cons_succ, List.getElem_toArray, List.getElem_cons_succ, List.getElem_cons_zero]
                refine wpAnyH_take (i := 2) (oi := _) (v := ?_) rfl (by kernel_rfl) (by kernel_rfl) (by kernel_rfl) (fun _ _ _ h => h) (Or.inl ⟨by rfl, ?_⟩) (by assumption) ?_
                rotate_left
                · intro wS hSw
                  (try dsimp only at hSw)
                  simp only [List.getElem_toArray, List.getElem_cons_succ, List.getElem_cons_zero]
                  first | (go_simp; done) | (go_simp; with_reducible rfl)
                try simp only [Act.put, List.setIfInBounds_toArray, List.set_cons_zero, List.set_cons_succ, List.getElem_toArray, List.getElem_cons_succ, List.getElem_cons_zero]
                refine wpAnyH_take (i := 3) (oi := _) (v := ?_) rfl (by kernel_rfl) (by kernel_rfl) (by kernel_rfl) (fun _ _ _ h => h) (Or.inl ⟨by rfl, ?_⟩) (by assumption) ?_
                rotate_left
                · intro wS hSw
                  (try dsimp only at hSw)
                  simp only [List.getElem_toArray, List.getElem_cons_succ, List.getElem_cons_zero]
                  first | (go_simp; done) | (go_simp; with_reducible rfl)
                try simp only [Act.put, List.setIfInBounds_toArray, List.set_cons_zero, List.set_cons_succ, List.getElem_toArray, List.getElem_cons_succ, List.getElem_cons_zero]
                refine wpAnyH_take (i := 4) (oi := _) (v := ?_) rfl (by kernel_rfl) (by kernel_rfl) (by kernel_rfl) (fun _ _ _ h => h) (Or.inl ⟨by rfl, ?_⟩) (by assumption) ?_
                rotate_left
                · intro wS hSw
                  (try dsimp only at hSw)
                  simp only [List.getElem_toArray, List.getElem_cons_succ, List.getElem_cons_zero]
                  first | (go_simp; done) | (go_simp; with_reducible rfl)
                try simp only [Act.put, List.setIfInBounds_toArray, List.set_cons_zero, List.set_cons_succ, List.getElem_toArray, List.getElem_cons_succ, List.getElem_cons_zero]
                refine wpAnyH_take (i := 5) (oi := _) (v := ?_) rfl (by kernel_rfl) (by kernel_rfl) (by kernel_rfl) (fun _ _ _ h => h) (Or.inl ⟨by rfl, ?_⟩) (by assumption) ?_
                rotate_left
                · intro wS hSw
                  (try dsimp only at hSw)
                  simp only [List.getElem_toArray, List.getElem_cons_succ, List.getElem_cons_zero]
                  first | (go_simp; done) | (go_simp; with_reducible rfl)
                try simp only [Act.put, List.setIfInBounds_toArray, List.set_cons_zero, List.set_cons_succ, List.getElem_toArray, List.getElem_cons_succ, List.getElem_cons_zero]
                refine wpAnyH_take (i := 6) (oi := _) (v := ?_) rfl (by kernel_rfl) (by kernel_rfl) (by kernel_rfl) (fun _ _ _ h => h) (Or.inl ⟨by rfl, ?_⟩) (by assumption) ?_
                rotate_left
                · intro wS hSw
                  (try dsimp only at hSw)
                  simp only [List.getElem_toArray, List.getElem_cons_succ, List.getElem_cons_zero]
                  first | (go_simp; done) | (go_simp; with_reducible rfl)
                try simp only [Act.put, List.setIfInBounds_toArray, List.set_cons_zero, List.set_cons_succ, List.getElem_toArray, List.getElem_cons_succ, List.getElem_cons_zero]
                refine wpAnyH_take (i := 7) (oi := _) (v := ?_) rfl (by kernel_rfl) (by kernel_rfl) (by kernel_rfl) (fun _ _ _ h => h) (Or.inl ⟨by rfl, ?_⟩) (by assumption) ?_
                rotate_left
                · intro wS hSw
                  (try dsimp only at hSw)
                  simp only [List.getElem_toArray, List.getElem_cons_succ, List.getElem_cons_zero]
                  first | (go_simp; done) | (go_simp; with_reducible rfl)
                try simp only [Act.put, List.setIfInBounds_toArray, List.set_cons_zero, List.set_cons_succ, List.getElem_toArray, List.getElem_cons_succ, List.getElem_cons_zero]
                refine wpAnyH_take (i := 8) (oi := _) (v := ?_) rfl (by kernel_rfl) (by kernel_rfl) (by kernel_rfl) (fun _ _ _ h => h) (Or.inl ⟨by rfl, ?_⟩) (by assumption) ?_
                rotate_left
                · intro wS hSw
                  (try dsimp only at hSw)
                  simp only [List.getElem_toArray, List.getElem_cons_succ, List.getElem_cons_zero]
                  first | (go_simp; done) | (go_simp; with_reducible rfl)
                try simp only [Act.put, List.setIfInBounds_toArray, List.set_cons_zero, List.set_cons_succ, List.getElem_toArray, List.getElem_cons_succ, List.getElem_cons_zero]
                refine wpAnyH_take (i := 9) (oi := _) (v := ?_) rfl (by kernel_rfl) (by kernel_rfl) (by kernel_rfl) (fun _ _ _ h => h) (Or.inl ⟨by rfl, ?_⟩) (by assumption) ?_
                rotate_left
                · intro wS hSw
                  (try dsimp only at hSw)
                  simp only [List.getElem_toArray, List.getElem_cons_succ, List.getElem_cons_zero]
                  first | (go_simp; done) | (go_simp; with_reducible rfl)
                try simp only [Act.put, List.setIfInBounds_toArray, List.set_cons_zero, List.set_cons_succ, List.getElem_toArray, List.getElem_cons_succ, List.getElem_cons_zero]
                refine wpAnyH_take (i := 10) (oi := _) (v := ?_) rfl (by kernel_rfl) (by kernel_rfl) (by kernel_rfl) (fun _ _ _ h => h) (Or.inl ⟨by rfl, ?_⟩) (by assumption) ?_
                rotate_left
                · intro wS hSw
                  (try dsimp only at hSw)
                  simp only [List.getElem_toArray, List.getElem_cons_succ, List.getElem_cons_zero]
                  first | (go_simp; done) | (go_simp; with_reducible rfl)
                try simp only [Act.put, List.setIfInBounds_toArray, List.set_cons_zero, List.set_cons_succ, List.getElem_toArray, List.getElem_cons_succ, List.getElem_cons_zero]
                refine wpAnyH_take (i := 11) (oi := _) (v := ?_) rfl (by kernel_rfl) (by kernel_rfl) (by kernel_rfl) (fun _ _ _ h => h) (Or.inl ⟨by rfl, ?_⟩) (by assumption) ?_
                rotate_left
                · intro wS hSw
                  (try dsimp only at hSw)
                  simp only [List.getElem_toArray, List.getElem_cons_succ, List.getElem_cons_zero]
                  first | (go_simp; done) | (go_simp; with_reducible rfl)
                try simp only [Act.put, List.setIfInBounds_toArray, List.set_cons_zero, List.set_cons_succ, List.getElem_toArray, List.getElem_cons_succ, List.getElem_cons_zero]
                refine wpAnyH_take (i := 12) (oi := _) (v := ?_) rfl (by kernel_rfl) (by kernel_rfl) (by kernel_rfl) (fun _ _ _ h => h) (Or.inl ⟨by rfl, ?_⟩) (by assumption) ?_
                rotate_left
                · intro wS hSw
                  (try dsimp only at hSw)
                  simp only [List.getElem_toArray, List.getElem_cons_succ, List.getElem_cons_zero]
                  first | (go_simp; done) | (go_simp; with_reducible rfl)
                try simp only [Act.put, List.setIfInBounds_toArray, List.set_cons_zero, List.set_cons_succ, List.getElem_toArray, List.getElem_cons_succ, List.getElem_cons_zero]
                refine wpAnyH_take (i := 13) (oi := _) (v := ?_) rfl (by kernel_rfl) (by kernel_rfl) (by kernel_rfl) (fun _ _ _ h => h) (Or.inl ⟨by rfl, ?_⟩) (by assumption) ?_
                rotate_left
                · intro wS hSw
                  (try dsimp only at hSw)
                  simp only [List.getElem_toArray, List.getElem_cons_succ, List.getElem_cons_zero]
                  first | (go_simp; done) | (go_simp; with_reducible rfl)
                try simp only [Act.put, List.setIfInBounds_toArray, List.set_cons_zero, List.set_cons_succ, List.getElem_toArray, List.getElem_cons_succ, List.getElem_cons_zero]
                refine wpAnyH_take (i := 14) (oi := _) (v := ?_) rfl (by kernel_rfl) (by kernel_rfl) (by kernel_rfl) (fun _ _ _ h => h) (Or.inl ⟨by rfl, ?_⟩) (by assumption) ?_
                rotate_left
                · intro wS hSw
                  (try dsimp only at hSw)
                  simp only [List.getElem_toArray, List.getElem_cons_succ, List.getElem_cons_zero]
                  first | (go_simp; done) | (go_simp; with_reducible rfl)
                try simp only [Act.put, List.setIfInBounds_toArray, List.set_cons_zero, List.set_cons_succ, List.getElem_toArray, List.getElem_cons_succ, List.getElem_cons_zero]
                refine wpAnyH_take (i := 15) (oi := _) (v := ?_) rfl (by kernel_rfl) (by kernel_rfl) (by kernel_rfl) (fun _ _ _ h => h) (Or.inl ⟨by rfl, ?_⟩) (by assumption) ?_
                rotate_left
                · intro wS hSw
                  (try dsimp only at hSw)
                  simp only [List.getElem_toArray, List.getElem_cons_succ, List.getElem_cons_zero]
                  first | (go_simp; done) | (go_simp; with_reducible rfl)
                try simp only [Act.put, List.setIfInBounds_toArray, List.set_cons_zero, List.set_cons_succ, List.getElem_toArray, List.getElem_cons_succ, List.getElem_cons_zero]
                refine wpAnyH_ready (rs := [16]) (by kernel_rfl) (by simp) ?_
                refine AllReadyH.cons (o := _) rfl (fun K hK => ?_) AllReadyH.nil
                try simp only [List.getElem_toArray, List.getElem_cons_succ, List.getElem_cons_zero]
                go_simp
                refine hK.out _ _ ?_ (fun hHeld => ?_)
                · (first | exact ⟨z0, z9⟩ | exact ⟨cell_alX z0, cell_alX z9⟩ | exact ⟨e0, e9⟩ | exact ⟨cell_alX e0, cell_alX e9⟩ | exact ⟨j0, j9⟩ | go_keep)
                clear hK K
                try simp only [Act.put, List.setIfInBounds_toArray, List.set_cons_zero, List.set_cons_succ, List.getElem_toArray, List.getElem_cons_succ, List.getElem_cons_zero]
                rw [← hw5]
                clear hw5
                refine wpAnyH_ready (rs := [17]) (by kernel_rfl) (by simp) ?_
                refine AllReadyH.cons (o := _) rfl (fun K hK => ?_) AllReadyH.nil
                try simp only [List.getElem_toArray, List.getElem_cons_succ, List.getElem_cons_zero]
                go_simp
                refine hK.out _ _ ?_ (fun hHeld => ?_)
                · (first | exact ⟨z0, z9⟩ | exact ⟨cell_alX z0, cell_alX z9⟩ | exact ⟨e0, e9⟩ | exact ⟨cell_alX e0, cell_alX e9⟩ | exact ⟨j0, j9⟩ | go_keep)
                clear hK K
                try simp only [Act.put, List.setIfInBounds_toArray, List.set_cons_zero, List.set_cons_succ, List.getElem_toArray, List.getElem_cons_succ, List.getElem_cons_zero]
                refine wpAnyH_ready (rs := [18]) (by kernel_rfl) (by simp) ?_
                refine AllReadyH.cons (o := _) rfl (fun K hK => ?_) AllReadyH.nil
                try simp only [List.getElem_toArray, List.getElem_cons_succ, List.getElem_cons_zero]
                refine step_app1H Try.eltS (by rfl) _ _ (by rfl) w5 _ (.slice (some ⟨w7.heap.size, 0, none⟩) 4 4) (by rfl) w2.heap.size (.slice A8 m8 c8) m8 us8 (by rfl) (by exact HU1.out) (by rfl) (by rfl) (by exact HLO5.out) (by have := HM8.out; omega) ?_
                intro A9 c9 w9 ho9 hg9
                have hb9 : Below w2.heap.size w5 w9 := below_grown hg9 HLO5.out (fun q hq => (HU1.out.lt q hq).1)
                have HB9 : Hid (Below w2.heap.size w2 w9) := Lib.hid (HB25.out.trans hb9)
                have j0 := (HM.out.bel (bqc HB9.out HB2.out)).cells.1
                have j9 := blk_cell (blk_bel HX9.out HB9.out) 2 rfl
                have HBN := Lib.hid (HU2.out _ _ _ ho9 hg9)
                clear ho9 hg9 hb9
                refine hK.out _ _ ?_ (fun hHeld => ?_)
                · (first | exact ⟨z0, z9⟩ | exact ⟨cell_alX z0, cell_alX z9⟩ | exact ⟨e0, e9⟩ | exact ⟨cell_alX e0, cell_alX e9⟩ | exact ⟨j0, j9⟩ | go_keep)
                clear hK K
                try simp only [Act.put, List.setIfInBounds_toArray, List.set_cons_zero, List.set_cons_succ, List.getElem_toArray, List.getElem_cons_succ, List.getElem_cons_zero]
                refine wpAnyH_ready (rs := [19]) (by kernel_rfl) (by simp) ?_
                refine AllReadyH.cons (o := _) rfl (fun K hK => ?_) AllReadyH.nil
                try simp only [List.getElem_toArray, List.getElem_cons_succ, List.getElem_cons_zero]
                go_simp
                refine hK.out _ _ ?_ (fun hHeld => ?_)
                · (first | exact ⟨z0, z9⟩ | exact ⟨cell_alX z0, cell_alX z9⟩ | exact ⟨e0, e9⟩ | exact ⟨cell_alX e0, cell_alX e9⟩ | exact ⟨j0, j9⟩ | go_keep)
                clear hK K
                try simp only [Act.put, List.setIfInBounds_toArray, List.set_cons_zero, List.set_cons_succ, List.getElem_toArray, List.getElem_cons_succ, List.getElem_cons_zero]
                refine wpAnyH_done (by kernel_rfl) ?_ _
                clear e0 e9 j0 j9 z0 z9 hs0 hq1 hq2 hq3
                go_wp2_with fail
                go_roundw
                case rel => exact ⟨k + 1, A9, m8 + 1, c9, by omega, by go_num, rfl, Lib.hid (by
                  have h1 := HBN.out.len
                  rw [← HFL.out, List.length_map] at h1
                  have h2 := fromK_len ys x3 (k + 1)
                  omega), by rw [HFL.out]; exact HBN.out, HB9.out⟩
                case measure => simp [intOf]; omega
              · as_aux_lemma =>
                have HXE := Lib.hid hxe
                have hcmp : (x == x3) = false := by rw [beq_eq_false_iff_ne]; exact hxe
                clear hxe
                go_wp2_with fail
                go_quiet (fail)
                go_wp2_with fail
                go_roundw
                case rel => exact ⟨k + 1, A8, m8, c8, by omega, by go_num, rfl, HM8, by rw [fromK_no HXX.out HXE.out]; exact HBLD.out.below (below_drewN (Below.refl _ _)), below_drewN HBR.out⟩
                case measure => simp [intOf]; omega
            · have HKE : Hid (fromK ys x3 k = fromD ys x3) := Lib.hid (by
                have h1 : k = ys.length := by have := HEL.out; omega
                rw [h1, fromK_all])
              have hwl := HBLD.out
              rw [HKE.out, ← HSA.out] at hwl
              have HWL := Lib.hid hwl
              clear hwl
              go_wp2_with fail
              go_ret
              exact ⟨_, _, _, _, rfl, HWL.out.ownp, fun q hq => ⟨Nat.le_trans HB2.out.size hq.1, hq.2⟩, HBWR.out⟩
      · as_aux_lemma =>
        have hne : ((0 : Int) == (-1 : Int)) = false := by decide
        have h3 := blk_bel HX9.out HB3.out
        have z0 := blk_cell h3 0 rfl
        have z1 := blk_cell h3 1 rfl
        have z2 := blk_cell h3 2 rfl
        clear h3
        go_wp2_with fail
        (first | (go_region_held3 (fun w' => w'.cell? ⟨g9, 0, none⟩ = some (.int .i64 ra) ∧ w'.cell? ⟨g9, 1, none⟩ = some (.int .i64 (-1)) ∧ w'.cell? ⟨g9, 2, none⟩ = some (.int .i64 rc)) (exact ⟨by assumption, by assumption, by assumption⟩) (first
          | (go_simp
             go_at_call 103
             refine (l05None_any _).mono ?_
             rintro e w4 ⟨rfl, hb4⟩
             replace hb4 := und1 hb4
             have h4 := blk_bel (blk_bel HX9.out HB3.out) hb4
             clear z0 z1 z2
             have z0 := blk_cell h4 0 rfl
             have z1 := blk_cell h4 1 rfl
             have z2 := blk_cell h4 2 rfl
             have HX94 := Lib.hid h4
             have HB4 : Hid (Below w3.heap.size w3 w4) := Lib.hid hb4
             clear hb4 h4))) | fail)
        all_goals
          as_aux_lemma =>
          obtain ⟨kd, hkd, hgd, hkd2, hqs, hvd⟩ := to_a (ns := ys) HY.out HK3.out HWR.out
          obtain ⟨v, hv⟩ : ∃ v, v = ys.getD (x3 * s + ra).toNat 0 := ⟨_, rfl⟩
          have HVV := Lib.hid hv
          rw [← hv] at hgd
          have HB24 : Hid (Below w2.heap.size w2 w4) := Lib.hid (bqc HB4.out HB3.out)
          have HBW4 : Hid (Below w.heap.size w w4) := Lib.hid (bqc HB24.out HB2.out)
          have HSA : Hid (succA s rs xs ys [x0, q, cc, x3] = (fromD xs x0).map (nxL s ⟨ra, -1, rc⟩ v)) := Lib.hid (by
            unfold succA
            rw [← HRU.out, ← HBI.out, hv]
            rfl)
          have hrd := HR2.out.below HBW4.out (Nat.le_refl _)
          obtain ⟨bD, oD, hAD, hbD, q0⟩ := hrd.at_ (ints_get hgd)
          have hkn : kd < n2 := by have h1 := hrd.1; simp only [List.length_map] at h1; rw [← h1]; exact (List.getElem?_eq_some_iff.1 hgd).1
          have i1 : (0 : Int) ≤ (kd : Int) := by omega
          have i2 : (kd : Int) < (n2 : Int) := by omega
          have w1 := wr_of hqs.1 (by omega)
          have w2' : IntKind.i64.wrap (x3 * s + ra) = (kd : Int) := (wr_of (x := x3 * s + ra) (by omega) (by omega)).trans hkd
          obtain ⟨y0, y1⟩ := (H2.out.bel HBW4.out).cells
          obtain ⟨u0, u1, u2⟩ := (HM.out.bel HBW4.out).cells
          have r0 := (HBW4.out.cell (p := ⟨p5, o5 + 3, none⟩) HP5.out).trans HC3.out
          have HEL : Hid (xs.length = n1) := Lib.hid (by have h1 := HR1.out.1; simpa using h1)
          have HEN : Hid (n1 ≤ 120) := Lib.hid (by
            have h1 := dfB_all HX.out
            have h2 := mul_bd (c := 20) (d := 6) (show (0 : Int) ≤ _ from (by omega : (0 : Int) ≤ a)) (by omega) (show 0 ≤ s by omega) h1.1.2
            have h3 := h1.2.2.1
            have h4 := HEL.out
            omega)
          have HBL : Hid (Bld w4 w2.heap.size (some ⟨w2.heap.size, 0, none⟩) 0 0 []) := Lib.hid (HBO.out.below HB4.out)
          clear hkd hgd hkd2 hqs hvd hv hrd hbD hkn u1 u2 y0
          subst hAD
          go_wp2_with fail
          go_quiet (fail)
          as_aux_lemma =>
          obtain ⟨w6, hw6⟩ : ∃ w6, w6 = w4.drewN nq := ⟨_, rfl⟩
          have HB46 : Hid (Below w4.heap.size w4 w6) := Lib.hid (by rw [hw6]; exact below_drewN (Below.refl _ _))
          rw [← hw6]
          clear hw6 z0 z1 z2 y1 u0 r0 q0 w1 w2' i1 i2 hne
          go_wp2_with fail
          go_loopw [10, 14] (fun o i wr => ∃ (k : Nat) (A8 : Option Addr) (m8 c8 : Nat), k ≤ n1 ∧ i = .int .i64 k ∧ o = .slice A8 m8 c8 ∧ Hid (m8 ≤ 120) ∧ Bld wr w2.heap.size A8 m8 c8 ((fromK xs x0 k).map (nxL s ⟨ra, -1, rc⟩ v)) ∧ Below w2.heap.size w2 wr) (fun _ i _ => n1 - (intOf i).toNat)
          case atStart => exact ⟨0, _, 0, 0, Nat.zero_le _, rfl, rfl, Lib.hid (by omega), HBL.out.below HB46.out, bqc HB46.out HB24.out⟩
          case round =>
            as_aux_lemma =>
            obtain ⟨k, A8, m8, c8, hk, rfl, rfl, HM8, hbl, hb⟩ := hrel
            have HBLD := Lib.hid hbl; have HBR := Lib.hid hb
            have HBWR : Hid (Below w.heap.size w wr) := Lib.hid (bqc hb HB2.out)
            have hen : n1 ≤ 120 := HEN.out
            obtain ⟨y0, y1⟩ := (H1.out.bel HBWR.out).cells
            clear hbl hb y0
            by_cases hlt : k < n1
            · have hlti : (k : Int) < (n1 : Int) := by omega
              have hk0 : (0 : Int) ≤ (k : Int) := by omega
              obtain ⟨x, hx⟩ := get_some (xs := xs) (k := k) (by rw [HEL.out]; exact hlt)
              have hrd := HR1.out.below HBWR.out (Nat.le_refl _)
              obtain ⟨bE, oE, hAE, hbE, q0⟩ := hrd.at_ (ints_get hx)
              subst hAE
              have r0 := (HBWR.out.cell (p := ⟨p5, o5, none⟩) HP5.out).trans HC0.out
              have HXX := Lib.hid hx
              clear hx hrd hbE
              by_cases hxe : x = x0
              · as_aux_lemma =>
                have HXE := Lib.hid hxe
                have hcmp : (x == x0) = true := by rw [hxe]; simp
                clear hxe
                go_wp2_with fail
                go_quiet (fail)
                as_aux_lemma =>
                obtain ⟨w7, hw7⟩ : ∃ w7, w7 = wr.drewN nq := ⟨_, rfl⟩
                have HB7 : Hid (Below wr.heap.size wr w7) := Lib.hid (by rw [hw7]; exact below_drewN (Below.refl _ _))
                rw [← hw7]
                clear hw7 q0 r0 y1 hcmp
                have h9 := blk_bel HX9.out (bqc HB7.out HBR.out)
                have z9 := blk_cell h9 2 rfl
                obtain ⟨z0, -, -⟩ := (HM.out.bel (bqc HB7.out HBWR.out)).cells
                have hs0 : ¬ s = 0 := by have := HS2.out; omega
                have hq1 := (tq (i := (k : Int)) (s := s) hk0 (by have := HS2.out; omega)).1
                have hq2 := (tq (i := (k : Int)) (s := s) hk0 (by have := HS2.out; omega)).2
                have hq3 : IntKind.i64.wrap ((k : Int) / s) = (k : Int) / s := wr_of (Int.ediv_nonneg hk0 (by have := HS2.out; omega)) (Int.le_trans (Int.ediv_le_self _ hk0) (by omega))
                clear h9
                obtain ⟨w5, hw5⟩ : ∃ w5, w5 = (w7.alloc (.cells #[.int .i64 ((k : Int) / s), .int .i64 (rc), .int .i64 ((k : Int) % s), .int .i64 (v)] 2)).drew := ⟨_, rfl⟩
                have HB75 : Hid (Below w7.heap.size w7 w5) := Lib.hid (by rw [hw5]; exact bqd (bqa (Below.refl _ _)))
                have ho5 : w5.ownsRow w7.heap.size 2 1 (.slice (some ⟨w7.heap.size, 0, none⟩) 4 4) 4 (ints [(k : Int) / s, rc, (k : Int) % s, v]) := by
                  rw [hw5]
                  exact ownN_below (own4 w7 _ _ _ _) (bqd (Below.refl _ _)) (Nat.le_refl _)
                have HLO7 : Hid (w2.heap.size ≤ w7.heap.size) := Lib.hid (bqc HB7.out HBR.out).size
                obtain ⟨us8, hu1, hu2⟩ := (HBLD.out.below HB7.out).step HB75.out ho5 (by omega) HLO7.out
                have HU1 := Lib.hid hu1; have HU2 := Lib.hid hu2
                have HB25 : Hid (Below w2.heap.size w2 w5) := Lib.hid (bqc HB75.out (bqc HB7.out HBR.out))
                have HLO5 : Hid (w2.heap.size ≤ w5.heap.size) := Lib.hid HB25.out.size
                have e0 := (HM.out.bel (bqc HB25.out HB2.out)).cells.1
                have e9 := blk_cell (blk_bel HX9.out HB25.out) 2 rfl
                have HM81 : Hid (m8 + 1 ≤ 121) := Lib.hid (by have := HM8.out; omega)
                have HFL : Hid (((fromK xs x0 (k + 1)).map (nxL s ⟨ra, -1, rc⟩ v)) = (fromK xs x0 k).map (nxL s ⟨ra, -1, rc⟩ v) ++ [[(k : Int) / s, rc, (k : Int) % s, v]]) := Lib.hid (by rw [fromK_yes HXX.out HXE.out, List.map_append]; rfl)
                clear ho5 hu1 hu2
                go_wp2_with fail
                refine wp_region_held_drew (S := fun w' => w'.cell? ⟨gm, 0, none⟩ = some (.int .i64 s) ∧ w'.cell? ⟨g9, 2, none⟩ = some (.int .i64 rc)) (by kernel_rfl) ?_ (fun hHeld => ?_)
                · (first | exact ⟨z0, z9⟩ | exact ⟨cell_alX z0, cell_alX z9⟩ | exact ⟨e0, e9⟩ | exact ⟨cell_alX e0, cell_alX e9⟩ | exact ⟨j0, j9⟩ | go_keep)
                refine wpAnyH_take (i := 0) (oi := _) (v := ?_) rfl (by kernel_rfl) (by kernel_rfl) (by kernel_rfl) (fun _ _ _ h => h) (Or.inl ⟨by rfl, ?_⟩) (by assumption) ?_
                rotate_left
                · intro wS hSw
                  (try dsimp only at hSw)
                  simp only [List.getElem_toArray, List.getElem_cons_succ, List.getElem_cons_zero]
                  first | (go_simp; done) | (go_simp; with_reducible rfl)
                try simp only [Act.put, List.setIfInBounds_toArray, List.set_cons_zero, List.set_cons_succ, List.getElem_toArray, List.getElem_cons_succ, List.getElem_cons_zero]
                refine wpAnyH_take (i := 1) (oi := _) (v := ?_) rfl (by kernel_rfl) (by kernel_rfl) (by kernel_rfl) (fun _ _ _ h => h) (Or.inl ⟨by rfl, ?_⟩) (by assumption) ?_
                rotate_left
                · intro wS hSw
                  (try dsimp only at hSw)
                  simp only [List.getElem_toArray, List.getElem_cons_succ, List.getElem_cons_zero]
                  first | (go_simp; done) | (go_simp; with_reducible rfl)
                try simp only [Act.put, List.setIfInBounds_toArray, List.set_cons_zero, List.set_cons_succ, List.getElem_toArray, List.getElem_cons_succ, List.getElem_cons_zero]
                refine wpAnyH_take (i := 2) (oi := _) (v := ?_) rfl (by kernel_rfl) (by kernel_rfl) (by kernel_rfl) (fun _ _ _ h => h) (Or.inl ⟨by rfl, ?_⟩) (by assumption) ?_
                rotate_left
                · intro wS hSw
                  (try dsimp only at hSw)
                  simp only [List.getElem_toArray, List.getElem_cons_succ, List.getElem_cons_zero]
                  first | (go_simp; done) | (go_simp; with_reducible rfl)
                try simp only [Act.put, List.setIfInBounds_toArray, List.set_cons_zero, List.set_cons_succ, List.getElem_toArray, List.getElem_cons_succ, List.getElem_cons_zero]
                refine wpAnyH_take (i := 3) (oi := _) (v := ?_) rfl (by kernel_rfl) (by kernel_rfl) (by kernel_rfl) (fun _ _ _ h => h) (Or.inl ⟨by rfl, ?_⟩) (by assumption) ?_
                rotate_left
                · intro wS hSw
                  (try dsimp only at hSw)
                  simp only [List.getElem_toArray, List.getElem_cons_succ, List.getElem_cons_zero]
                  first | (go_simp; done) | (go_simp; with_reducible rfl)
                try simp only [Act.put, List.setIfInBounds_toArray, List.set_cons_zero, List.set_cons_succ, List.getElem_toArray, List.getElem_cons_succ, List.getElem_cons_zero]
                refine wpAnyH_take (i := 4) (oi := _) (v := ?_) rfl (by kernel_rfl) (by kernel_rfl) (by kernel_rfl) (fun _ _ _ h => h) (Or.inl ⟨by rfl, ?_⟩) (by assumption) ?_
                rotate_left
                · intro wS hSw
                  (try dsimp only at hSw)
                  simp only [List.getElem_toArray, List.getElem_cons_succ, List.getElem_cons_zero]
                  first | (go_simp; done) | (go_simp; with_reducible rfl)
                try simp only [Act.put, List.setIfInBounds_toArray, List.set_cons_zero, List.set_cons_succ, List.getElem_toArray, List.getElem_cons_succ, List.getElem_cons_zero]
                refine wpAnyH_take (i := 5) (oi := _) (v := ?_) rfl (by kernel_rfl) (by kernel_rfl) (by kernel_rfl) (fun _ _ _ h => h) (Or.inl ⟨by rfl, ?_⟩) (by assumption) ?_
                rotate_left
                · intro wS hSw
                  (try dsimp only at hSw)
                  simp only [List.getElem_toArray, List.getElem_cons_succ, List.getElem_cons_zero]
                  first | (go_simp; done) | (go_simp; with_reducible rfl)
                try simp only [Act.put, List.setIfInBounds_toArray, List.set_cons_zero, List.set_cons_succ, List.getElem_toArray, List.getElem_cons_succ, List.getElem_cons_zero]
                refine wpAnyH_take (i := 6) (oi := _) (v := ?_) rfl (by kernel_rfl) (by kernel_rfl) (by kernel_rfl) (fun _ _ _ h => h) (Or.inl ⟨by rfl, ?_⟩) (by assumption) ?_
                rotate_left
                · intro wS hSw
                  (try dsimp only at hSw)
                  simp only [List.getElem_toArray, List.getElem_cons_succ, List.getElem_cons_zero]
                  first | (go_simp; done) | (go_simp; with_reducible rfl)
                try simp only [Act.put, List.setIfInBounds_toArray, List.set_cons_zero, List.set_cons_succ, List.getElem_toArray, List.getElem_cons_succ, List.getElem_cons_zero]
                refine wpAnyH_take (i := 7) (oi := _) (v := ?_) rfl (by kernel_rfl) (by kernel_rfl) (by kernel_rfl) (fun _ _ _ h => h) (Or.inl ⟨by rfl, ?_⟩) (by assumption) ?_
                rotate_left
                · intro wS hSw
                  (try dsimp only at hSw)
                  simp only [List.getElem_toArray, List.getElem_cons_succ, List.getElem_cons_zero]
                  first | (go_simp; done) | (go_simp; with_reducible rfl)
                try simp only [Act.put, List.setIfInBounds_toArray, List.set_cons_zero, List.set_cons_succ, List.getElem_toArray, List.getElem_cons_succ, List.getElem_cons_zero]
                refine wpAnyH_take (i := 8) (oi := _) (v := ?_) rfl (by kernel_rfl) (by kernel_rfl) (by kernel_rfl) (fun _ _ _ h => h) (Or.inl ⟨by rfl, ?_⟩) (by assumption) ?_
                rotate_left
                · intro wS hSw
                  (try dsimp only at hSw)
                  simp only [List.getElem_toArray, List.getElem_cons_succ, List.getElem_cons_zero]
                  first | (go_simp; done) | (go_simp; with_reducible rfl)
                try simp only [Act.put, List.setIfInBounds_toArray, List.set_cons_zero, List.set_cons_succ, List.getElem_toArray, List.getElem_cons_succ, List.getElem_cons_zero]
                refine wpAnyH_take (i := 9) (oi := _) (v := ?_) rfl (by kernel_rfl) (by kernel_rfl) (by kernel_rfl) (fun _ _ _ h => h) (Or.inl ⟨by rfl, ?_⟩) (by assumption) ?_
                rotate_left
                · intro wS hSw
                  (try dsimp only at hSw)
                  simp only [List.getElem_toArray, List.getElem_cons_succ, List.getElem_cons_zero]
                  first | (go_simp; done) | (go_simp; with_reducible rfl)
                try simp only [Act.put, List.setIfInBounds_toArray, List.set_cons_zero, List.set_cons_succ, List.getElem_toArray, List.getElem_cons_succ, List.getElem_cons_zero]
                refine wpAnyH_take (i := 10) (oi := _) (v := ?_) rfl (by kernel_rfl) (by kernel_rfl) (by kernel_rfl) (fun _ _ _ h => h) (Or.inl ⟨by rfl, ?_⟩) (by assumption) ?_
                rotate_left
                · intro wS hSw
                  (try dsimp only at hSw)
                  simp only [List.getElem_toArray, List.getElem_cons_succ, List.getElem_cons_zero]
                  first | (go_simp; done) | (go_simp; with_reducible rfl)
                try simp only [Act.put, List.setIfInBounds_toArray, List.set_cons_zero, List.set_cons_succ, List.getElem_toArray, List.getElem_cons_succ, List.getElem_cons_zero]
                refine wpAnyH_take (i := 11) (oi := _) (v := ?_) rfl (by kernel_rfl) (by kernel_rfl) (by kernel_rfl) (fun _ _ _ h => h) (Or.inl ⟨by rfl, ?_⟩) (by assumption) ?_
                rotate_left
                · intro wS hSw
                  (try dsimp only at hSw)
                  simp only [List.getElem_toArray, List.getElem_cons_succ, List.getElem_cons_zero]
                  first | (go_simp; done) | (go_simp; with_reducible rfl)
                try simp only [Act.put, List.setIfInBounds_toArray, List.set_cons_zero, List.set_cons_succ, List.getElem_toArray, List.getElem_cons_succ, List.getElem_cons_zero]
                refine wpAnyH_take (i := 12) (oi := _) (v := ?_) rfl (by kernel_rfl) (by kernel_rfl) (by kernel_rfl) (fun _ _ _ h => h) (Or.inl ⟨by rfl, ?_⟩) (by assumption) ?_
                rotate_left
                · intro wS hSw
                  (try dsimp only at hSw)
                  simp only [List.getElem_toArray, List.getElem_cons_succ, List.getElem_cons_zero]
                  first | (go_simp; done) | (go_simp; with_reducible rfl)
                try simp only [Act.put, List.setIfInBounds_toArray, List.set_cons_zero, List.set_cons_succ, List.getElem_toArray, List.getElem_cons_succ, List.getElem_cons_zero]
                refine wpAnyH_take (i := 13) (oi := _) (v := ?_) rfl (by kernel_rfl) (by kernel_rfl) (by kernel_rfl) (fun _ _ _ h => h) (Or.inl ⟨by rfl, ?_⟩) (by assumption) ?_
                rotate_left
                · intro wS hSw
                  (try dsimp only at hSw)
                  simp only [List.getElem_toArray, List.getElem_cons_succ, List.getElem_cons_zero]
                  first | (go_simp; done) | (go_simp; with_reducible rfl)
                try simp only [Act.put, List.setIfInBounds_toArray, List.set_cons_zero, List.set_cons_succ, List.getElem_toArray, List.getElem_cons_succ, List.getElem_cons_zero]
                refine wpAnyH_take (i := 14) (oi := _) (v := ?_) rfl (by kernel_rfl) (by kernel_rfl) (by kernel_rfl) (fun _ _ _ h => h) (Or.inl ⟨by rfl, ?_⟩) (by assumption) ?_
                rotate_left
                · intro wS hSw
                  (try dsimp only at hSw)
                  simp only [List.getElem_toArray, List.getElem_cons_succ, List.getElem_cons_zero]
                  first | (go_simp; done) | (go_simp; with_reducible rfl)
                try simp only [Act.put, List.setIfInBounds_toArray, List.set_cons_zero, List.set_cons_succ, List.getElem_toArray, List.getElem_cons_succ, List.getElem_cons_zero]
                refine wpAnyH_take (i := 15) (oi := _) (v := ?_) rfl (by kernel_rfl) (by kernel_rfl) (by kernel_rfl) (fun _ _ _ h => h) (Or.inl ⟨by rfl, ?_⟩) (by assumption) ?_
                rotate_left
                · intro wS hSw
                  (try dsimp only at hSw)
                  simp only [List.getElem_toArray, List.getElem_cons_succ, List.getElem_cons_zero]
                  first | (go_simp; done) | (go_simp; with_reducible rfl)
                try simp only [Act.put, List.setIfInBounds_toArray, List.set_cons_zero, List.set_cons_succ, List.getElem_toArray, List.getElem_cons_succ, List.getElem_cons_zero]
                refine wpAnyH_ready (rs := [16]) (by kernel_rfl) (by simp) ?_
                refine AllReadyH.cons (o := _) rfl (fun K hK => ?_) AllReadyH.nil
                try simp only [List.getElem_toArray, List.getElem_cons_succ, List.getElem_cons_zero]
                go_simp
                refine hK.out _ _ ?_ (fun hHeld => ?_)
                · (first | exact ⟨z0, z9⟩ | exact ⟨cell_alX z0, cell_alX z9⟩ | exact ⟨e0, e9⟩ | exact ⟨cell_alX e0, cell_alX e9⟩ | exact ⟨j0, j9⟩ | go_keep)
                clear hK K
                try simp only [Act.put, List.setIfInBounds_toArray, List.set_cons_zero, List.set_cons_succ, List.getElem_toArray, List.getElem_cons_succ, List.getElem_cons_zero]
                rw [← hw5]
                clear hw5
                refine wpAnyH_ready (rs := [17]) (by kernel_rfl) (by simp) ?_
                refine AllReadyH.cons (o := _) rfl (fun K hK => ?_) AllReadyH.nil
                try simp only [List.getElem_toArray, List.getElem_cons_succ, List.getElem_cons_zero]
                go_simp
                refine hK.out _ _ ?_ (fun hHeld => ?_)
                · (first | exact ⟨z0, z9⟩ | exact ⟨cell_alX z0, cell_alX z9⟩ | exact ⟨e0, e9⟩ | exact ⟨cell_alX e0, cell_alX e9⟩ | exact ⟨j0, j9⟩ | go_keep)
                clear hK K
                try simp only [Act.put, List.setIfInBounds_toArray, List.set_cons_zero, List.set_cons_succ, List.getElem_toArray, List.getElem_cons_succ, List.getElem_cons_zero]
                refine wpAnyH_ready (rs := [18]) (by kernel_rfl) (by simp) ?_
                refine AllReadyH.cons (o := _) rfl (fun K hK => ?_) AllReadyH.nil
                try simp only [List.getElem_toArray, List.getElem_cons_succ, List.getElem_cons_zero]
                refine step_app1H Try.eltS (by rfl) _ _ (by rfl) w5 _ (.slice (some ⟨w7.heap.size, 0, none⟩) 4 4) (by rfl) w2.heap.size (.slice A8 m8 c8) m8 us8 (by rfl) (by exact HU1.out) (by rfl) (by rfl) (by exact HLO5.out) (by have := HM8.out; omega) ?_
                intro A9 c9 w9 ho9 hg9
                have hb9 : Below w2.heap.size w5 w9 := below_grown hg9 HLO5.out (fun q hq => (HU1.out.lt q hq).1)
                have HB9 : Hid (Below w2.heap.size w2 w9) := Lib.hid (HB25.out.trans hb9)
                have j0 := (HM.out.bel (bqc HB9.out HB2.out)).cells.1
                have j9 := blk_cell (blk_bel HX9.out HB9.out) 2 rfl
                have HBN := Lib.hid (HU2.out _ _ _ ho9 hg9)
                clear ho9 hg9 hb9
                refine hK.out _ _ ?_ (fun hHeld => ?_)
                · (first | exact ⟨z0, z9⟩ | exact ⟨cell_alX z0, cell_alX z9⟩ | exact ⟨e0, e9⟩ | exact ⟨cell_alX e0, cell_alX e9⟩ | exact ⟨j0, j9⟩ | go_keep)
                clear hK K
                try simp only [Act.put, List.setIfInBounds_toArray, List.set_cons_zero, List.set_cons_succ, List.getElem_toArray, List.getElem_cons_succ, List.getElem_cons_zero]
                refine wpAnyH_ready (rs := [19]) (by kernel_rfl) (by simp) ?_
                refine AllReadyH.cons (o := _) rfl (fun K hK => ?_) AllReadyH.nil
                try simp only [List.getElem_toArray, List.getElem_cons_succ, List.getElem_cons_zero]
                go_simp
                refine hK.out _ _ ?_ (fun hHeld => ?_)
                · (first | exact ⟨z0, z9⟩ | exact ⟨cell_alX z0, cell_alX z9⟩ | exact ⟨e0, e9⟩ | exact ⟨cell_alX e0, cell_alX e9⟩ | exact ⟨j0, j9⟩ | go_keep)
                clear hK K
                try simp only [Act.put, List.setIfInBounds_toArray, List.set_cons_zero, List.set_cons_succ, List.getElem_toArray, List.getElem_cons_succ, List.getElem_cons_zero]
                refine wpAnyH_done (by kernel_rfl) ?_ _
                clear e0 e9 j0 j9 z0 z9 hs0 hq1 hq2 hq3
                go_wp2_with fail
                go_roundw
                case rel => exact ⟨k + 1, A9, m8 + 1, c9, by omega, by go_num, rfl, Lib.hid (by
                  have h1 := HBN.out.len
                  rw [← HFL.out, List.length_map] at h1
                  have h2 := fromK_len xs x0 (k + 1)
                  omega), by rw [HFL.out]; exact HBN.out, HB9.out⟩
                case measure => simp [intOf]; omega
              · as_aux_lemma =>
                have HXE := Lib.hid hxe
                have hcmp : (x == x0) = false := by rw [beq_eq_false_iff_ne]; exact hxe
                clear hxe
                go_wp2_with fail
                go_quiet (fail)
                go_wp2_with fail
                go_roundw
                case rel => exact ⟨k + 1, A8, m8, c8, by omega, by go_num, rfl, HM8, by rw [fromK_no HXX.out HXE.out]; exact HBLD.out.below (below_drewN (Below.refl _ _)), below_drewN HBR.out⟩
                case measure => simp [intOf]; omega
            · have HKE : Hid (fromK xs x0 k = fromD xs x0) := Lib.hid (by
                have h1 : k = xs.length := by have := HEL.out; omega
                rw [h1, fromK_all])
              have hwl := HBLD.out
              rw [HKE.out, ← HSA.out] at hwl
              have HWL := Lib.hid hwl
              clear hwl
              go_wp2_with fail
              go_ret
              exact ⟨_, _, _, _, rfl, HWL.out.ownp, fun q hq => ⟨Nat.le_trans HB2.out.size hq.1, hq.2⟩, HBWR.out⟩
end Go.Proofs.Ytcpkhhammafchaa
