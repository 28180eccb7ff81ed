/- FindContexts (program): the search for the least proof of a size. Written by mk_fdj.py. -/
import Derived.Test.YtanicbbgneobpaaGreatFdI
import Derived.Test.YtanicbbgneobpaaGreatPq
import Derived.Test.YtanicbbgneobpaaGreatMk
import Derived.Deep.DrawnRows
namespace Go.Proofs.YtanicbbgneobpaaGreat
open Go.RowKit
set_option linter.unusedVariables false
set_option linter.unusedSimpArgs false
attribute [local go_sem ↓] Go.wp_at_zero Go.wp_at_succ
theorem bq_al {a W : World} {o : Obj} (h : Below a.heap.size a W) : Below a.heap.size a (W.alloc o) := h.alloc h.size _
theorem bq_dr {a W : World} (h : Below a.heap.size a W) : Below a.heap.size a W.drew := ⟨h.os, h.tape, h.output, h.size, h.block⟩
theorem bq_dn {a W : World} {n : Nat} (h : Below a.heap.size a W) : Below a.heap.size a (W.drewN n) := ⟨h.os, h.tape, h.output, h.size, h.block⟩
theorem bq_set {a W : World} {g i : Nat} {v : Value} (h : Below a.heap.size a W) (hg : a.heap.size ≤ g) : Below a.heap.size a (W.setCell ⟨g, i, none⟩ v) := h.setCell hg v
theorem bq_call {a V W : World} (hc : Below V.heap.size V W) (h : Below a.heap.size a V) : Below a.heap.size a W := h.trans (hc.mono h.size)
theorem ne_lt {w1 V : World} {k1 k2 : Nat} (hlt : k1 < w1.heap.size) (hb : Below w1.heap.size w1 V) (hk : V.heap.size ≤ k2) : k1 ≠ k2 := by have := hb.size; omega
theorem le_lt {w1 V : World} {k : Nat} (hb : Below w1.heap.size w1 V) (hk : V.heap.size ≤ k) : w1.heap.size ≤ k := Nat.le_trans hb.size hk
theorem bld_cl (s : Nat) (t : Int) (A : Option Addr) (n c : Nat) (g1 g2 g3 : Nat) (w : World) : (Instr.build 133 #[(0, .agg #[.int .i64 s, .int .i64 t, .slice A n c]), (1, .pointer (some ⟨g1, 0, none⟩)), (2, .pointer (some ⟨g2, 0, none⟩)), (3, .pointer (some ⟨g3, 0, none⟩))]).run Tryz.prog w = .ok (.agg #[.int .i64 s, .int .i64 t, .slice A n c, .pointer (some ⟨g1, 0, none⟩), .pointer (some ⟨g2, 0, none⟩), .pointer (some ⟨g3, 0, none⟩)]) w :=
  run_build _ _ _ _ (by kernel_rfl)
theorem bind_val {P : Program} {w : World} {m : Sem Value} {v : Value} (h : m.run P w = .ok v w) : Sem.run P (do let x ← m; return Next.value x) w = .ok (.value v) w := by simp [h, Result.andThen]
theorem rdl1k {a W : World} {A : Option Addr} {n c T b : Nat} {xs : List Int} (hb : b = a.heap.size) (h : Below (a.alloc (.cells #[.slice A n c] T)).heap.size (a.alloc (.cells #[.slice A n c] T)) W) (hr : Rd a A n (ints xs)) (hn : n ≤ 1000000000) : RdL W (some ⟨b, 0, none⟩) 1 [xs] := by
  subst hb
  exact (rdl1 hr hn).below h (Nat.le_refl _)
theorem rd_mkz1k {a W : World} {b : Nat} (n : Nat) (hb : b = a.heap.size) (hn : n ≤ 100000) (h : Below (a.alloc (.cells (madeCells #[.int .i64 0] n) 2)).heap.size (a.alloc (.cells (madeCells #[.int .i64 0] n) 2)) W) : Rd W (some ⟨b, 0, none⟩) n (ints (List.replicate n 0)) := by
  subst hb
  exact own_rd (ownN_below (own_mkz n hn a) h (Nat.le_refl _))
theorem pfp_bel {w w1 w2 : World} {r : ResF} {e : Ending} (h : PfP w r e w1) (hb : Below w1.heap.size w1 w2) : PfP w r e w2 := by
  obtain ⟨A, n, c, B, m, d, F, rfl, ho, hp, hF, hd, hb2⟩ := h
  exact ⟨A, n, c, B, m, d, F, rfl, ownN_below ho hb (Nat.le_refl _), hp.below hb, fun k hk => ⟨(hF k hk).1, Nat.lt_of_lt_of_le (hF k hk).2 hb.size⟩, hd, hb2.trans (hb.mono hb2.size)⟩
theorem pfp_set {w w0 wx : World} {r : ResF} {e : Ending} {q : Nat} {v0 v1 v2 : Value} (h : PfP w0 r e wx) (hb : Below w.heap.size w w0) (hq : w.heap.size ≤ q) (hq0 : q < w0.heap.size) : PfP w r e (((wx.setCell ⟨q, 0, none⟩ v0).setCell ⟨q, 1, none⟩ v1).setCell ⟨q, 2, none⟩ v2) := by
  obtain ⟨A, n, c, B, m, d, _, _, h2⟩ := pfp_on h hb
  exact h2 q v0 v1 v2 hq hq0
theorem prF_chR {N n1 n2 : Nat} {S : St3} (h1 : S.l.length = n1) (h2 : S.r.length = n2) : chR ([(N : Int), (n1 : Int), (n2 : Int)] ++ S.c.map (fun x => x.getD 0 0)) (S.l ++ S.r ++ S.c.map (fun x => x.drop 1)) = prF N S := by
  subst h1 h2; rfl
theorem prF_no {N : Nat} {S : St3} (h : okF N S = false) : prF N S = (0, [], [], 5) := by
  unfold prF; unfold okF at h; rw [h]; rfl
theorem prF_ok {N : Nat} {S : St3} (h : okF N S = true) : ∃ ns ws, prF N S = (8, ns, ws, 0) := by
  unfold prF; unfold okF at h; rw [h]; exact ⟨_, _, rfl⟩
/-- The box of the sets, made ahead of the sorting or behind it. -/
def BxP (w : World) (N : Nat) (S : St3) (g : Nat) (W : World) : Prop := ∃ (A1 : Option Addr) (n1 c1 : Nat) (A2 : Option Addr) (n2 c2 : Nat) (A3 : Option Addr) (n3 c3 : Nat) (us3 : List Value), W.heap[g]? = some (.cells #[.int .i64 N, .slice A1 n1 c1, .slice A2 n2 c2, .slice A3 n3 c3] 75 (0, 0)) ∧ RdL W A1 n1 S.l ∧ RdL W A2 n2 S.r ∧ OwnX W A3 n3 c3 us3 S.c ∧ Below w.heap.size w W
theorem bxp_new {w w3 : World} {N : Nat} {S : St3} {A1 A2 A3 : Option Addr} {n1 c1 n2 c2 n3 c3 : Nat} {F1 F2 F3 : Nat → Prop} (h1 : OwnP w3 F1 A1 n1 c1 S.l) (h2 : OwnP w3 F2 A2 n2 c2 S.r) (h3 : OwnP w3 F3 A3 n3 c3 S.c) (hb : Below w.heap.size w w3) : BxP w N S w3.heap.size (w3.alloc (.cells #[.int .i64 N, .slice A1 n1 c1, .slice A2 n2 c2, .slice A3 n3 c3] 75)) := by
  obtain ⟨us, hx, _⟩ := ownp_x (h3.below (below_new w3 (.cells #[.int .i64 N, .slice A1 n1 c1, .slice A2 n2 c2, .slice A3 n3 c3] 75)))
  exact ⟨A1, n1, c1, A2, n2, c2, A3, n3, c3, us, box_new _ _ _, (h1.below (below_new w3 _)).rdl, (h2.below (below_new w3 _)).rdl, hx, hb.alloc hb.size _⟩
theorem bxp_drw {w W : World} {N g : Nat} {S : St3} (h : BxP w N S g W) : BxP w N S g W.drew := by
  obtain ⟨A1, n1, c1, A2, n2, c2, A3, n3, c3, us, h1, h2, h3, h4, h5⟩ := h
  have hb : Below W.heap.size W W.drew := below_drew1 (Below.refl _ _)
  exact ⟨A1, n1, c1, A2, n2, c2, A3, n3, c3, us, blk_bel h1 hb, h2.below hb (Nat.le_refl _), h3.below hb (Nat.le_refl _), h4.below hb, below_drew1 h5⟩
theorem ch_set4 (wx : World) (r : Nat) (v0 v1 v2 v3 : Value) : Ch (· = r) wx ((((wx.setCell ⟨r, 0, none⟩ v0).setCell ⟨r, 1, none⟩ v1).setCell ⟨r, 2, none⟩ v2).setCell ⟨r, 3, none⟩ v3) := (((ch_set _ _ 0 _).trans (ch_set _ _ 1 _)).trans (ch_set _ _ 2 _)).trans (ch_set _ _ 3 _)
theorem bxp_set {w w3 : World} {N g : Nat} {S : St3} {A1 A2 A3 : Option Addr} {n1 c1 n2 c2 n3 c3 : Nat} {F1 F2 F3 : Nat → Prop} {u0 u1 u2 u3 : Value} (h1 : OwnP w3 F1 A1 n1 c1 S.l) (h2 : OwnP w3 F2 A2 n2 c2 S.r) (h3 : OwnP w3 F3 A3 n3 c3 S.c) (hb : Below w.heap.size w w3) (hg : w.heap.size ≤ g) (hx : w3.heap[g]? = some (.cells #[u0, u1, u2, u3] 75 (0, 0)))
    (d1 : ¬ F1 g) (d2 : ¬ F2 g) (d3 : ¬ F3 g) : BxP w N S g ((((w3.setCell ⟨g, 0, none⟩ (.int .i64 N)).setCell ⟨g, 1, none⟩ (.slice A1 n1 c1)).setCell ⟨g, 2, none⟩ (.slice A2 n2 c2)).setCell ⟨g, 3, none⟩ (.slice A3 n3 c3)) := by
  have hc := ch_set4 w3 g (.int .i64 N) (.slice A1 n1 c1) (.slice A2 n2 c2) (.slice A3 n3 c3)
  obtain ⟨us, hx3, _⟩ := ownp_x (h3.ch hc (fun k hk e => by have e2 : k = g := e; subst e2; exact d3 hk))
  refine ⟨A1, n1, c1, A2, n2, c2, A3, n3, c3, us, by simpa using blk_set (blk_set (blk_set (blk_set hx 0 (.int .i64 N)) 1 (.slice A1 n1 c1)) 2 (.slice A2 n2 c2)) 3 (.slice A3 n3 c3), (h1.ch hc (fun k hk e => by have e2 : k = g := e; subst e2; exact d1 hk)).rdl, (h2.ch hc (fun k hk e => by have e2 : k = g := e; subst e2; exact d2 hk)).rdl, hx3, below_ch hb hc (fun k hk => by have e : k = g := hk; omega) hb.size⟩
def RndQ (w : World) (p : ClP) (s : Nat) (rs : List Rul) (S : St3) (B : Nat) (e : Ending) (w' : World) : Prop :=
  (roundF s rs S S.c = none ∧ e = .returned (.bool false) ∧ Ch p.F w w') ∨ (∃ S', roundF s rs S S.c = some S' ∧ e = .returned (.bool true) ∧ SetsIn w' p S' (B + 7 * S.c.length) ∧ Ch p.F w w')
theorem st0_size (N : Nat) : (st0 N).size = 3 := rfl
set_option maxHeartbeats 16000000 in
set_option maxRecDepth 100000 in
theorem findContexts_any (w : World) (s : Nat) (t : Int) (A : Option Addr) (n c : Nat) (rs : List Rul) (hr : Rd w A (n * 3) (ints (flatR rs))) (hn : n ≤ 1099511627776) (hm : okM s t rs = true) (N : Nat) (hN : 1 ≤ N ∧ N ≤ 4) :
    Calls Tryz.prog 55 #[mchV s t A n c, .int .i64 N] w (PfP w (fdP s rs N (st0 N))) := by
  obtain ⟨w0, hw0⟩ : ∃ w0, w0 = (w.alloc (.cells #[.int .i64 s, .int .i64 t, .slice A n c] 37)).alloc (.cells pfZq 39) := ⟨_, rfl⟩
  have hB : Below w.heap.size w w0 := by rw [hw0]; exact (below_new w _).trans ((below_new _ _).mono (by simp))
  have hx0 : w0.heap[w.heap.size]? = some (.cells #[.int .i64 s, .int .i64 t, .slice A n c] 37 (0, 0)) := by rw [hw0]; exact blk_alloc (box_new w _ _) _
  have hz : w0.heap[w.heap.size + 1]? = some (.cells pfZq 39 (0, 0)) := by rw [hw0]; have h := box_new (w.alloc (.cells #[.int .i64 s, .int .i64 t, .slice A n c] 37)) pfZq 39; simpa using h
  have HX0 := Lib.hid hx0; have HZ := Lib.hid hz; have HB := Lib.hid hB
  have HR := Lib.hid (hr.below hB (Nat.le_refl _)); have HN4 := Lib.hid hN; have HOK := Lib.hid hm; have HNN := Lib.hid hn
  have HSS : Hid (2 ≤ s ∧ s ≤ 6) := Lib.hid (by have := (okM_all hm).1; omega)
  have HI0 := Lib.hid (st0_inv hm hN)
  obtain ⟨M, hM⟩ : ∃ M, M = 2 * N + 2 := ⟨_, rfl⟩
  have HM := Lib.hid hM
  have e1 : IntKind.i64.wrap (2 * (N : Int)) = 2 * (N : Int) := IntWalk.i64_in _ (by omega)
  have e2 : IntKind.i64.wrap (2 * (N : Int) + 2) = (M : Int) := by rw [hM]; exact (IntWalk.i64_in _ (by omega)).trans (by omega)
  have h1 := fun w => run_mkz N (by omega) w
  have h2 := fun w => run_mkz M (by omega) w
  have HE1 := Lib.hid e1; have HE2 := Lib.hid e2
  clear hB hx0 hz hr hn hm hN hM
  go_enter Tryz.func55, Tryz.ntmps55
  go_upto_region 1 with fail
  rw [← hw0]
  clear hw0
  as_aux_lemma =>
  go_cut [6, 7] from 13 to 18 (fun s6 s7 wx => ∃ (A6 A7 : Option Addr), s6 = .slice A6 N N ∧ s7 = .slice A7 M M ∧ Rd wx A6 N (ints (List.replicate N 0)) ∧ Rd wx A7 M (ints (List.replicate M 0)) ∧ Below w0.heap.size w0 wx)
  case first =>
    as_aux_lemma =>
    (first | (go_region_held3 (fun _ => True) (exact trivial) (fail)) | fail)
    all_goals
      clear e1 e2 h1 h2
      go_wp2_with fail
      go_meet
      refine ⟨_, _, rfl, rfl, ?_, ?_, ?_⟩
      · first | exact rd_mkz1k (a := w0) N (by simp only [World.size_alloc]) (by have := HN4.out; have := HM.out; omega) (by (repeat (first | with_reducible exact Below.refl _ _ | with_reducible refine bq_al ?_ | with_reducible refine bq_dr ?_))) | exact rd_mkz1k (a := (w0.alloc (.cells (madeCells #[.int .i64 0] M) 2))) N (by simp only [World.size_alloc]) (by have := HN4.out; have := HM.out; omega) (by (repeat (first | with_reducible exact Below.refl _ _ | with_reducible refine bq_al ?_ | with_reducible refine bq_dr ?_)))
      · first | exact rd_mkz1k (a := w0) M (by simp only [World.size_alloc]) (by have := HN4.out; have := HM.out; omega) (by (repeat (first | with_reducible exact Below.refl _ _ | with_reducible refine bq_al ?_ | with_reducible refine bq_dr ?_))) | exact rd_mkz1k (a := (w0.alloc (.cells (madeCells #[.int .i64 0] N) 2))) M (by simp only [World.size_alloc]) (by have := HN4.out; have := HM.out; omega) (by (repeat (first | with_reducible exact Below.refl _ _ | with_reducible refine bq_al ?_ | with_reducible refine bq_dr ?_)))
      · (repeat (first | with_reducible exact Below.refl _ _ | with_reducible refine bq_al ?_ | with_reducible refine bq_dr ?_))
  case rest =>
    as_aux_lemma =>
    obtain ⟨A6, A7, rfl, rfl, hr6, hr7, hb4⟩ := hcut
    obtain ⟨w4, rfl⟩ : ∃ v, v = wc := ⟨_, rfl⟩
    clear e1 e2
    have HB4 : Hid (Below w.heap.size w w4) := Lib.hid (HB.out.trans (hb4.mono HB.out.size))
    have HX4 := Lib.hid (blk_bel HX0.out hb4); have HZ4 := Lib.hid (blk_bel HZ.out hb4); have HRM := Lib.hid (HR.out.below hb4 (Nat.le_refl _))
    have HB04 := Lib.hid hb4
    have HR6 : Hid (∀ X : World, Below w4.heap.size w4 X → Rd X A6 N (ints (List.replicate N 0))) := Lib.hid (fun X h => hr6.below h (Nat.le_refl _))
    have HR7 : Hid (∀ X : World, Below w4.heap.size w4 X → Rd X A7 M (ints (List.replicate M 0))) := Lib.hid (fun X h => hr7.below h (Nat.le_refl _))
    have HR4 : Hid (Below w4.heap.size w4 w4) := Lib.hid (Below.refl _ _)
    have HGN : Hid (∀ k, k ≤ 10 → ∀ x ∈ [List.replicate k (0 : Int)], Gw x) := Lib.hid (fun k hk x hx => by
      obtain rfl := List.mem_singleton.1 hx
      exact ⟨by simp; omega, fun z hz => by rw [List.eq_of_mem_replicate hz]; unfold SmI; omega⟩)
    have HSA : Hid (∀ wx : World, Below w4.heap.size w4 wx → ∀ (A : Option Addr) (n c : Nat), RdL wx A n [List.replicate N 0] → Calls Tryz.prog 42 #[.int .i64 N, .slice A n c] wx (fun e w' => ∃ g mB, e = .returned (.pointer (some ⟨g, 0, none⟩)) ∧ IsSet w' g mB (N : Int) [List.replicate N 0] ∧ wx.heap.size ≤ g ∧ wx.heap.size ≤ mB ∧ Below wx.heap.size wx w')) := Lib.hid (fun wx _ A n c h => setOf_any wx N A n c _ h (by have := h.len; simp at this; omega) (HGN.out N (by have := HN4.out; omega)))
    have HSC : Hid (∀ wx : World, Below w4.heap.size w4 wx → ∀ (A : Option Addr) (n c : Nat), RdL wx A n [List.replicate M 0] → Calls Tryz.prog 42 #[.int .i64 M, .slice A n c] wx (fun e w' => ∃ g mB, e = .returned (.pointer (some ⟨g, 0, none⟩)) ∧ IsSet w' g mB (M : Int) [List.replicate M 0] ∧ wx.heap.size ≤ g ∧ wx.heap.size ≤ mB ∧ Below wx.heap.size wx w')) := Lib.hid (fun wx _ A n c h => setOf_any wx M A n c _ h (by have := h.len; simp at this; omega) (HGN.out M (by have := HN4.out; have := HM.out; omega)))
    have HN9 : Hid (N ≤ 1000000000 ∧ M ≤ 1000000000) := Lib.hid (by have := HN4.out; have := HM.out; omega)
    have HSX : Hid (∀ wx : World, Below w4.heap.size w4 wx → wx.cell? ⟨w.heap.size, 0, none⟩ = some (.int .i64 s) ∧ wx.cell? ⟨w.heap.size, 1, none⟩ = some (.int .i64 t) ∧ wx.cell? ⟨w.heap.size, 2, none⟩ = some (.slice A n c)) := Lib.hid (fun wx hbx => by
      have h := blk_bel HX4.out hbx
      exact ⟨blk_cell h 0 rfl, blk_cell h 1 rfl, blk_cell h 2 rfl⟩)
    have e1 := HE1.out; have e2 := HE2.out
    clear hr6 hr7 hb4 h1 h2
    go_upto_region 2 with fail
    go_cut [8] from 19 to 35 (fun s8 wx => ∃ (gx gl ml gr mr gc mc : Nat), s8 = .pointer (some ⟨gx, 0, none⟩) ∧ SetsIn wx ⟨gx, s, t, A, n, c, gl, ml, gr, mr, gc, mc, N⟩ (st0 N) 1 ∧ (w4.heap.size ≤ ml ∧ w4.heap.size ≤ mr ∧ w4.heap.size ≤ mc) ∧ Below w4.heap.size w4 wx)
    case first =>
      as_aux_lemma =>
      have HEM : Hid (∀ (W : World) (g m : Nat) (xs : List (List Int)), IsSet W g m (M : Int) xs → IsSet W g m (2 * (N : Int) + 2) xs) := Lib.hid (fun W g m xs h => by rw [show (2 * (N : Int) + 2) = (M : Int) by have := HM.out; omega]; exact h)
      have HE0 : Hid (sortU [List.replicate M (0 : Int)] = (st0 N).c) := Lib.hid (by rw [HM.out]; exact st0_sort (2 * N + 2))
      have HE1x : Hid ([List.replicate N (0 : Int)].length ≤ 1 ∧ [List.replicate N (0 : Int)].length ≤ 1 ∧ [List.replicate M (0 : Int)].length ≤ 1) := Lib.hid ⟨Nat.le_refl _, Nat.le_refl _, Nat.le_refl _⟩
      clear HX0 HZ HB HR HN4 HOK HNN HSS HI0 HE1 HE2 HB4 HX4 HZ4 HRM HB04 HGN HM
      refine wp_region_held_drew (S := fun w' => w'.cell? ⟨w.heap.size, 0, none⟩ = some (.int .i64 s) ∧ w'.cell? ⟨w.heap.size, 1, none⟩ = some (.int .i64 t) ∧ w'.cell? ⟨w.heap.size, 2, none⟩ = some (.slice A n c)) (by kernel_rfl) ?_ (fun hHeld => ?_)
      · exact HSX.out _ (bq_dr HR4.out)
      refine wpAnyH_take (i := 0) (oi := _) (v := ?_) rfl (by kernel_rfl) (by kernel_rfl) (by kernel_rfl) (fun _ _ _ h => h) (Or.inl ⟨by rfl, ?_⟩) (by assumption) ?_
      rotate_left
      · intro wS hSw
        (try dsimp only at hSw)
        simp only [List.getElem_toArray, List.getElem_cons_succ, List.getElem_cons_zero]
        first | (go_simp; done) | (go_simp; with_reducible rfl)
      try simp only [Act.put, List.setIfInBounds_toArray, List.set_cons_zero, List.set_cons_succ, List.getElem_toArray, List.getElem_cons_succ, List.getElem_cons_zero]
      refine wpAnyH_take (i := 1) (oi := _) (v := ?_) rfl (by kernel_rfl) (by kernel_rfl) (by kernel_rfl) (fun _ _ _ h => h) (Or.inl ⟨by rfl, ?_⟩) (by assumption) ?_
      rotate_left
      · intro wS hSw
        (try dsimp only at hSw)
        simp only [List.getElem_toArray, List.getElem_cons_succ, List.getElem_cons_zero]
        first | (go_simp; done) | (go_simp; with_reducible rfl)
      try simp only [Act.put, List.setIfInBounds_toArray, List.set_cons_zero, List.set_cons_succ, List.getElem_toArray, List.getElem_cons_succ, List.getElem_cons_zero]
      refine wpAnyH_take (i := 2) (oi := _) (v := ?_) rfl (by kernel_rfl) (by kernel_rfl) (by kernel_rfl) (fun _ _ _ h => h) (Or.inl ⟨by rfl, ?_⟩) (by assumption) ?_
      rotate_left
      · intro wS hSw
        (try dsimp only at hSw)
        simp only [List.getElem_toArray, List.getElem_cons_succ, List.getElem_cons_zero]
        first | (go_simp; done) | (go_simp; with_reducible rfl)
      try simp only [Act.put, List.setIfInBounds_toArray, List.set_cons_zero, List.set_cons_succ, List.getElem_toArray, List.getElem_cons_succ, List.getElem_cons_zero]
      refine wpAnyH_take (i := 5) (oi := _) (v := ?_) rfl (by kernel_rfl) (by kernel_rfl) (by kernel_rfl) (fun _ _ _ h => h) (Or.inl ⟨by rfl, ?_⟩) (by assumption) ?_
      rotate_left
      · intro wS hSw
        (try dsimp only at hSw)
        simp only [List.getElem_toArray, List.getElem_cons_succ, List.getElem_cons_zero]
        first | (go_simp; done) | (go_simp; with_reducible rfl)
      try simp only [Act.put, List.setIfInBounds_toArray, List.set_cons_zero, List.set_cons_succ, List.getElem_toArray, List.getElem_cons_succ, List.getElem_cons_zero]
      refine wpAnyH_take (i := 6) (oi := _) (v := ?_) rfl (by kernel_rfl) (by kernel_rfl) (by kernel_rfl) (fun _ _ _ h => h) (Or.inl ⟨by rfl, ?_⟩) (by assumption) ?_
      rotate_left
      · intro wS hSw
        (try dsimp only at hSw)
        simp only [List.getElem_toArray, List.getElem_cons_succ, List.getElem_cons_zero]
        first | (go_simp; done) | (go_simp; with_reducible rfl)
      try simp only [Act.put, List.setIfInBounds_toArray, List.set_cons_zero, List.set_cons_succ, List.getElem_toArray, List.getElem_cons_succ, List.getElem_cons_zero]
      refine wpAnyH_take (i := 9) (oi := _) (v := ?_) rfl (by kernel_rfl) (by kernel_rfl) (by kernel_rfl) (fun _ _ _ h => h) (Or.inl ⟨by rfl, ?_⟩) (by assumption) ?_
      rotate_left
      · intro wS hSw
        (try dsimp only at hSw)
        simp only [List.getElem_toArray, List.getElem_cons_succ, List.getElem_cons_zero]
        first | (go_simp; done) | (go_simp; with_reducible rfl)
      try simp only [Act.put, List.setIfInBounds_toArray, List.set_cons_zero, List.set_cons_succ, List.getElem_toArray, List.getElem_cons_succ, List.getElem_cons_zero]
      refine wpAnyH_take (i := 10) (oi := _) (v := ?_) rfl (by kernel_rfl) (by kernel_rfl) (by kernel_rfl) (fun _ _ _ h => h) (Or.inl ⟨by rfl, ?_⟩) (by assumption) ?_
      rotate_left
      · intro wS hSw
        (try dsimp only at hSw)
        simp only [List.getElem_toArray, List.getElem_cons_succ, List.getElem_cons_zero]
        first | (go_simp; done) | (go_simp; with_reducible rfl)
      try simp only [Act.put, List.setIfInBounds_toArray, List.set_cons_zero, List.set_cons_succ, List.getElem_toArray, List.getElem_cons_succ, List.getElem_cons_zero]
      refine wpAnyH_take (i := 11) (oi := _) (v := ?_) rfl (by kernel_rfl) (by kernel_rfl) (by kernel_rfl) (fun _ _ _ h => h) (Or.inl ⟨by rfl, ?_⟩) (by assumption) ?_
      rotate_left
      · intro wS hSw
        (try dsimp only at hSw)
        simp only [List.getElem_toArray, List.getElem_cons_succ, List.getElem_cons_zero]
        first | (go_simp; done) | (go_simp; with_reducible rfl)
      try simp only [Act.put, List.setIfInBounds_toArray, List.set_cons_zero, List.set_cons_succ, List.getElem_toArray, List.getElem_cons_succ, List.getElem_cons_zero]
      refine wpAnyH_take (i := 12) (oi := _) (v := ?_) rfl (by kernel_rfl) (by kernel_rfl) (by kernel_rfl) (fun _ _ _ h => h) (Or.inl ⟨by rfl, ?_⟩) (by assumption) ?_
      rotate_left
      · intro wS hSw
        (try dsimp only at hSw)
        simp only [List.getElem_toArray, List.getElem_cons_succ, List.getElem_cons_zero]
        first | (go_simp; done) | (go_simp; with_reducible rfl)
      try simp only [Act.put, List.setIfInBounds_toArray, List.set_cons_zero, List.set_cons_succ, List.getElem_toArray, List.getElem_cons_succ, List.getElem_cons_zero]
      refine wpAnyH_ready (rs := [3, 7, 13]) (by kernel_rfl) (by simp) ?_
      refine AllReadyH.cons (o := _) rfl (fun K hK => ?_) (AllReadyH.cons (o := _) rfl (fun K hK => ?_) (AllReadyH.cons (o := _) rfl (fun K hK => ?_) AllReadyH.nil))
      · as_aux_lemma =>
        try simp only [List.getElem_toArray, List.getElem_cons_succ, List.getElem_cons_zero]
        go_simp
        refine hK.out _ _ ?_ (fun hHeld => ?_)
        · first | exact HSX.out _ (bq_al HR4.out) | exact HSX.out _ (bq_dr (bq_al HR4.out))
        clear hK K
        try simp only [Act.put, List.setIfInBounds_toArray, List.set_cons_zero, List.set_cons_succ, List.getElem_toArray, List.getElem_cons_succ, List.getElem_cons_zero]
        refine wpAnyH_ready (rs := [4, 7, 13]) (by kernel_rfl) (by simp) ?_
        refine AllReadyH.cons (o := _) rfl (fun K hK => ?_) (AllReadyH.cons (o := _) rfl (fun K hK => ?_) (AllReadyH.cons (o := _) rfl (fun K hK => ?_) AllReadyH.nil))
        · as_aux_lemma =>
          try simp only [List.getElem_toArray, List.getElem_cons_succ, List.getElem_cons_zero]
          go_simp
          go_at_call 42
          with_reducible refine (HSA.out _ (by first | exact (bq_al HR4.out) | exact (bq_dr (bq_al HR4.out))) _ 1 1 (by first | exact rdl1k (by simp only [World.size_alloc]) (Below.refl _ _) (HR6.out _ HR4.out) HN9.out.1 | exact rdl1k (by simp only [World.size_alloc]) (bq_dr (Below.refl _ _)) (HR6.out _ HR4.out) HN9.out.1)).mono ?_
          rintro e w11 ⟨g11, k11, rfl, hs11, hg11, hk11, hb11⟩
          (try replace hb11 := und1 hb11)
          have HS11 := Lib.hid hs11
          have HC11 := Lib.hid hb11
          have HK11 := Lib.hid hk11
          clear hs11 hb11 hg11 hk11
          refine hK.out _ _ ?_ (fun hHeld => ?_)
          · exact HSX.out _ (bq_call HC11.out (bq_al HR4.out))
          clear hK K
          try simp only [Act.put, List.setIfInBounds_toArray, List.set_cons_zero, List.set_cons_succ, List.getElem_toArray, List.getElem_cons_succ, List.getElem_cons_zero]
          refine wpAnyH_ready (rs := [7, 13]) (by kernel_rfl) (by simp) ?_
          refine AllReadyH.cons (o := _) rfl (fun K hK => ?_) (AllReadyH.cons (o := _) rfl (fun K hK => ?_) AllReadyH.nil)
          · as_aux_lemma =>
            try simp only [List.getElem_toArray, List.getElem_cons_succ, List.getElem_cons_zero]
            go_simp
            refine hK.out _ _ ?_ (fun hHeld => ?_)
            · exact HSX.out _ (bq_al (bq_call HC11.out (bq_al HR4.out)))
            clear hK K
            try simp only [Act.put, List.setIfInBounds_toArray, List.set_cons_zero, List.set_cons_succ, List.getElem_toArray, List.getElem_cons_succ, List.getElem_cons_zero]
            refine wpAnyH_ready (rs := [8, 13]) (by kernel_rfl) (by simp) ?_
            refine AllReadyH.cons (o := _) rfl (fun K hK => ?_) (AllReadyH.cons (o := _) rfl (fun K hK => ?_) AllReadyH.nil)
            · as_aux_lemma =>
              try simp only [List.getElem_toArray, List.getElem_cons_succ, List.getElem_cons_zero]
              go_simp
              go_at_call 42
              with_reducible refine (HSA.out _ (by exact (bq_al (bq_call HC11.out (bq_al HR4.out)))) _ 1 1 (by exact rdl1k (by simp only [World.size_alloc]) (Below.refl _ _) (HR6.out _ (bq_call HC11.out (bq_al HR4.out))) HN9.out.1)).mono ?_
              rintro e w12 ⟨g12, k12, rfl, hs12, hg12, hk12, hb12⟩
              have HS12 := Lib.hid hs12
              have HC12 := Lib.hid hb12
              have HK12 := Lib.hid hk12
              clear hs12 hb12 hg12 hk12
              refine hK.out _ _ ?_ (fun hHeld => ?_)
              · exact HSX.out _ (bq_call HC12.out (bq_al (bq_call HC11.out (bq_al HR4.out))))
              clear hK K
              try simp only [Act.put, List.setIfInBounds_toArray, List.set_cons_zero, List.set_cons_succ, List.getElem_toArray, List.getElem_cons_succ, List.getElem_cons_zero]
              refine wpAnyH_ready (rs := [13]) (by kernel_rfl) (by simp) ?_
              refine AllReadyH.cons (o := _) rfl (fun K hK => ?_) AllReadyH.nil
              try simp only [List.getElem_toArray, List.getElem_cons_succ, List.getElem_cons_zero]
              go_simp
              refine hK.out _ _ ?_ (fun hHeld => ?_)
              · exact HSX.out _ (bq_al (bq_call HC12.out (bq_al (bq_call HC11.out (bq_al HR4.out)))))
              clear hK K
              try simp only [Act.put, List.setIfInBounds_toArray, List.set_cons_zero, List.set_cons_succ, List.getElem_toArray, List.getElem_cons_succ, List.getElem_cons_zero]
              refine wpAnyH_ready (rs := [14]) (by kernel_rfl) (by simp) ?_
              refine AllReadyH.cons (o := _) rfl (fun K hK => ?_) AllReadyH.nil
              try simp only [List.getElem_toArray, List.getElem_cons_succ, List.getElem_cons_zero]
              go_simp
              go_at_call 42
              with_reducible refine (HSC.out _ (by exact (bq_al (bq_call HC12.out (bq_al (bq_call HC11.out (bq_al HR4.out)))))) _ 1 1 (by exact rdl1k (by simp only [World.size_alloc]) (Below.refl _ _) (HR7.out _ (bq_call HC12.out (bq_al (bq_call HC11.out (bq_al HR4.out))))) HN9.out.2)).mono ?_
              rintro e w13 ⟨g13, k13, rfl, hs13, hg13, hk13, hb13⟩
              have HS13 := Lib.hid hs13
              have HC13 := Lib.hid hb13
              have HK13 := Lib.hid hk13
              clear hs13 hb13 hg13 hk13
              refine hK.out _ _ ?_ (fun hHeld => ?_)
              · exact HSX.out _ (bq_call HC13.out (bq_al (bq_call HC12.out (bq_al (bq_call HC11.out (bq_al HR4.out))))))
              clear hK K
              try simp only [Act.put, List.setIfInBounds_toArray, List.set_cons_zero, List.set_cons_succ, List.getElem_toArray, List.getElem_cons_succ, List.getElem_cons_zero]
              have hbl := bld_cl s t A n c g11 g12 g13
              refine wpAnyH_take (i := 15) (oi := _) (v := .agg #[.int .i64 s, .int .i64 t, .slice A n c, .pointer (some ⟨g11, 0, none⟩), .pointer (some ⟨g12, 0, none⟩), .pointer (some ⟨g13, 0, none⟩)]) rfl (by kernel_rfl) (by kernel_rfl) (by kernel_rfl) (fun _ _ _ h => h) (Or.inl ⟨by rfl, ?_⟩) (by assumption) ?_
              · intro wS hSw
                clear hSw
                simp only [List.getElem_toArray, List.getElem_cons_succ, List.getElem_cons_zero]
                unfold execOp
                simp only [List.map_toArray, List.map_cons, List.map_nil, Act.eval]
                exact bind_val (hbl wS)
              clear hbl
              try simp only [Act.put, List.setIfInBounds_toArray, List.set_cons_zero, List.set_cons_succ, List.getElem_toArray, List.getElem_cons_succ, List.getElem_cons_zero]
              refine wpAnyH_ready (rs := [16]) (by kernel_rfl) (by simp) ?_
              refine AllReadyH.cons (o := _) rfl (fun K hK => ?_) AllReadyH.nil
              try simp only [List.getElem_toArray, List.getElem_cons_succ, List.getElem_cons_zero]
              go_simp
              refine hK.out _ _ ?_ (fun hHeld => ?_)
              · exact HSX.out _ (bq_al (bq_call HC13.out (bq_al (bq_call HC12.out (bq_al (bq_call HC11.out (bq_al HR4.out)))))))
              clear hK K
              try simp only [Act.put, List.setIfInBounds_toArray, List.set_cons_zero, List.set_cons_succ, List.getElem_toArray, List.getElem_cons_succ, List.getElem_cons_zero]
              refine wpAnyH_take (i := 17) (oi := _) (v := ?_) rfl (by kernel_rfl) (by kernel_rfl) (by kernel_rfl) (fun _ _ _ h => h) (Or.inl ⟨by rfl, ?_⟩) (by assumption) ?_
              rotate_left
              · intro wS hSw
                (try dsimp only at hSw)
                simp only [List.getElem_toArray, List.getElem_cons_succ, List.getElem_cons_zero]
                first | (go_simp; done) | (go_simp; with_reducible rfl)
              try simp only [Act.put, List.setIfInBounds_toArray, List.set_cons_zero, List.set_cons_succ, List.getElem_toArray, List.getElem_cons_succ, List.getElem_cons_zero]
              refine wpAnyH_done (by kernel_rfl) ?_ _
              as_aux_lemma =>
              clear e1 e2
              go_wp2_with fail
              go_meet
              refine ⟨w13.heap.size, g11, k11, g12, k12, g13, k13, rfl, ⟨[List.replicate N 0], [List.replicate N 0], [List.replicate M 0], ⟨box_new _ _ _, HS11.out.below (bq_al (bq_call HC13.out (bq_al (bq_call HC12.out (bq_al (Below.refl _ _)))))), HS12.out.below (bq_al (bq_call HC13.out (bq_al (Below.refl _ _)))), (HEM.out _ _ _ _ HS13.out).below (bq_al (Below.refl _ _)), ne_lt HS11.out.own.lt (bq_al (Below.refl _ _)) HK12.out, ne_lt HS11.out.own.lt (bq_al (bq_call HC12.out (bq_al (Below.refl _ _)))) HK13.out, ne_lt HS12.out.own.lt (bq_al (Below.refl _ _)) HK13.out⟩, ⟨st0_sort N, st0_sort N, HE0.out⟩, HE1x.out⟩, ⟨(by first | exact le_lt (bq_al HR4.out) HK11.out | exact le_lt (bq_dr (bq_al HR4.out)) HK11.out), le_lt (bq_al (bq_call HC11.out (bq_al HR4.out))) HK12.out, le_lt (bq_al (bq_call HC12.out (bq_al (bq_call HC11.out (bq_al HR4.out))))) HK13.out⟩, (bq_al (bq_call HC13.out (bq_al (bq_call HC12.out (bq_al (bq_call HC11.out (bq_al HR4.out)))))))⟩
            · as_aux_lemma =>
              try simp only [List.getElem_toArray, List.getElem_cons_succ, List.getElem_cons_zero]
              go_simp
              refine hK.out _ _ ?_ (fun hHeld => ?_)
              · exact HSX.out _ (bq_al (bq_al (bq_call HC11.out (bq_al HR4.out))))
              clear hK K
              try simp only [Act.put, List.setIfInBounds_toArray, List.set_cons_zero, List.set_cons_succ, List.getElem_toArray, List.getElem_cons_succ, List.getElem_cons_zero]
              refine wpAnyH_ready (rs := [8]) (by kernel_rfl) (by simp) ?_
              refine AllReadyH.cons (o := _) rfl (fun K hK => ?_) AllReadyH.nil
              try simp only [List.getElem_toArray, List.getElem_cons_succ, List.getElem_cons_zero]
              go_simp
              go_at_call 42
              with_reducible refine (HSA.out _ (by exact (bq_al (bq_al (bq_call HC11.out (bq_al HR4.out))))) _ 1 1 (by exact rdl1k (by simp only [World.size_alloc]) (bq_al (Below.refl _ _)) (HR6.out _ (bq_call HC11.out (bq_al HR4.out))) HN9.out.1)).mono ?_
              rintro e w12 ⟨g12, k12, rfl, hs12, hg12, hk12, hb12⟩
              have HS12 := Lib.hid hs12
              have HC12 := Lib.hid hb12
              have HK12 := Lib.hid hk12
              clear hs12 hb12 hg12 hk12
              refine hK.out _ _ ?_ (fun hHeld => ?_)
              · exact HSX.out _ (bq_call HC12.out (bq_al (bq_al (bq_call HC11.out (bq_al HR4.out)))))
              clear hK K
              try simp only [Act.put, List.setIfInBounds_toArray, List.set_cons_zero, List.set_cons_succ, List.getElem_toArray, List.getElem_cons_succ, List.getElem_cons_zero]
              refine wpAnyH_ready (rs := [14]) (by kernel_rfl) (by simp) ?_
              refine AllReadyH.cons (o := _) rfl (fun K hK => ?_) AllReadyH.nil
              try simp only [List.getElem_toArray, List.getElem_cons_succ, List.getElem_cons_zero]
              go_simp
              go_at_call 42
              with_reducible refine (HSC.out _ (by exact (bq_call HC12.out (bq_al (bq_al (bq_call HC11.out (bq_al HR4.out)))))) _ 1 1 (by exact rdl1k (by simp only [World.size_alloc]) (bq_call HC12.out (Below.refl _ _)) (HR7.out _ (bq_al (bq_call HC11.out (bq_al HR4.out)))) HN9.out.2)).mono ?_
              rintro e w13 ⟨g13, k13, rfl, hs13, hg13, hk13, hb13⟩
              have HS13 := Lib.hid hs13
              have HC13 := Lib.hid hb13
              have HK13 := Lib.hid hk13
              clear hs13 hb13 hg13 hk13
              refine hK.out _ _ ?_ (fun hHeld => ?_)
              · exact HSX.out _ (bq_call HC13.out (bq_call HC12.out (bq_al (bq_al (bq_call HC11.out (bq_al HR4.out))))))
              clear hK K
              try simp only [Act.put, List.setIfInBounds_toArray, List.set_cons_zero, List.set_cons_succ, List.getElem_toArray, List.getElem_cons_succ, List.getElem_cons_zero]
              have hbl := bld_cl s t A n c g11 g12 g13
              refine wpAnyH_take (i := 15) (oi := _) (v := .agg #[.int .i64 s, .int .i64 t, .slice A n c, .pointer (some ⟨g11, 0, none⟩), .pointer (some ⟨g12, 0, none⟩), .pointer (some ⟨g13, 0, none⟩)]) rfl (by kernel_rfl) (by kernel_rfl) (by kernel_rfl) (fun _ _ _ h => h) (Or.inl ⟨by rfl, ?_⟩) (by assumption) ?_
              · intro wS hSw
                clear hSw
                simp only [List.getElem_toArray, List.getElem_cons_succ, List.getElem_cons_zero]
                unfold execOp
                simp only [List.map_toArray, List.map_cons, List.map_nil, Act.eval]
                exact bind_val (hbl wS)
              clear hbl
              try simp only [Act.put, List.setIfInBounds_toArray, List.set_cons_zero, List.set_cons_succ, List.getElem_toArray, List.getElem_cons_succ, List.getElem_cons_zero]
              refine wpAnyH_ready (rs := [16]) (by kernel_rfl) (by simp) ?_
              refine AllReadyH.cons (o := _) rfl (fun K hK => ?_) AllReadyH.nil
              try simp only [List.getElem_toArray, List.getElem_cons_succ, List.getElem_cons_zero]
              go_simp
              refine hK.out _ _ ?_ (fun hHeld => ?_)
              · exact HSX.out _ (bq_al (bq_call HC13.out (bq_call HC12.out (bq_al (bq_al (bq_call HC11.out (bq_al HR4.out)))))))
              clear hK K
              try simp only [Act.put, List.setIfInBounds_toArray, List.set_cons_zero, List.set_cons_succ, List.getElem_toArray, List.getElem_cons_succ, List.getElem_cons_zero]
              refine wpAnyH_take (i := 17) (oi := _) (v := ?_) rfl (by kernel_rfl) (by kernel_rfl) (by kernel_rfl) (fun _ _ _ h => h) (Or.inl ⟨by rfl, ?_⟩) (by assumption) ?_
              rotate_left
              · intro wS hSw
                (try dsimp only at hSw)
                simp only [List.getElem_toArray, List.getElem_cons_succ, List.getElem_cons_zero]
                first | (go_simp; done) | (go_simp; with_reducible rfl)
              try simp only [Act.put, List.setIfInBounds_toArray, List.set_cons_zero, List.set_cons_succ, List.getElem_toArray, List.getElem_cons_succ, List.getElem_cons_zero]
              refine wpAnyH_done (by kernel_rfl) ?_ _
              as_aux_lemma =>
              clear e1 e2
              go_wp2_with fail
              go_meet
              refine ⟨w13.heap.size, g11, k11, g12, k12, g13, k13, rfl, ⟨[List.replicate N 0], [List.replicate N 0], [List.replicate M 0], ⟨box_new _ _ _, HS11.out.below (bq_al (bq_call HC13.out (bq_call HC12.out (bq_al (bq_al (Below.refl _ _)))))), HS12.out.below (bq_al (bq_call HC13.out (Below.refl _ _))), (HEM.out _ _ _ _ HS13.out).below (bq_al (Below.refl _ _)), ne_lt HS11.out.own.lt (bq_al (bq_al (Below.refl _ _))) HK12.out, ne_lt HS11.out.own.lt (bq_call HC12.out (bq_al (bq_al (Below.refl _ _)))) HK13.out, ne_lt HS12.out.own.lt (Below.refl _ _) HK13.out⟩, ⟨st0_sort N, st0_sort N, HE0.out⟩, HE1x.out⟩, ⟨(by first | exact le_lt (bq_al HR4.out) HK11.out | exact le_lt (bq_dr (bq_al HR4.out)) HK11.out), le_lt (bq_al (bq_al (bq_call HC11.out (bq_al HR4.out)))) HK12.out, le_lt (bq_call HC12.out (bq_al (bq_al (bq_call HC11.out (bq_al HR4.out))))) HK13.out⟩, (bq_al (bq_call HC13.out (bq_call HC12.out (bq_al (bq_al (bq_call HC11.out (bq_al HR4.out)))))))⟩
          · as_aux_lemma =>
            try simp only [List.getElem_toArray, List.getElem_cons_succ, List.getElem_cons_zero]
            go_simp
            refine hK.out _ _ ?_ (fun hHeld => ?_)
            · exact HSX.out _ (bq_al (bq_call HC11.out (bq_al HR4.out)))
            clear hK K
            try simp only [Act.put, List.setIfInBounds_toArray, List.set_cons_zero, List.set_cons_succ, List.getElem_toArray, List.getElem_cons_succ, List.getElem_cons_zero]
            refine wpAnyH_ready (rs := [7]) (by kernel_rfl) (by simp) ?_
            refine AllReadyH.cons (o := _) rfl (fun K hK => ?_) AllReadyH.nil
            try simp only [List.getElem_toArray, List.getElem_cons_succ, List.getElem_cons_zero]
            go_simp
            refine hK.out _ _ ?_ (fun hHeld => ?_)
            · exact HSX.out _ (bq_al (bq_al (bq_call HC11.out (bq_al HR4.out))))
            clear hK K
            try simp only [Act.put, List.setIfInBounds_toArray, List.set_cons_zero, List.set_cons_succ, List.getElem_toArray, List.getElem_cons_succ, List.getElem_cons_zero]
            refine wpAnyH_ready (rs := [8]) (by kernel_rfl) (by simp) ?_
            refine AllReadyH.cons (o := _) rfl (fun K hK => ?_) AllReadyH.nil
            try simp only [List.getElem_toArray, List.getElem_cons_succ, List.getElem_cons_zero]
            go_simp
            go_at_call 42
            with_reducible refine (HSA.out _ (by exact (bq_al (bq_al (bq_call HC11.out (bq_al HR4.out))))) _ 1 1 (by exact rdl1k (by simp only [World.size_alloc]) (Below.refl _ _) (HR6.out _ (bq_al (bq_call HC11.out (bq_al HR4.out)))) HN9.out.1)).mono ?_
            rintro e w12 ⟨g12, k12, rfl, hs12, hg12, hk12, hb12⟩
            have HS12 := Lib.hid hs12
            have HC12 := Lib.hid hb12
            have HK12 := Lib.hid hk12
            clear hs12 hb12 hg12 hk12
            refine hK.out _ _ ?_ (fun hHeld => ?_)
            · exact HSX.out _ (bq_call HC12.out (bq_al (bq_al (bq_call HC11.out (bq_al HR4.out)))))
            clear hK K
            try simp only [Act.put, List.setIfInBounds_toArray, List.set_cons_zero, List.set_cons_succ, List.getElem_toArray, List.getElem_cons_succ, List.getElem_cons_zero]
            refine wpAnyH_ready (rs := [14]) (by kernel_rfl) (by simp) ?_
            refine AllReadyH.cons (o := _) rfl (fun K hK => ?_) AllReadyH.nil
            try simp only [List.getElem_toArray, List.getElem_cons_succ, List.getElem_cons_zero]
            go_simp
            go_at_call 42
            with_reducible refine (HSC.out _ (by exact (bq_call HC12.out (bq_al (bq_al (bq_call HC11.out (bq_al HR4.out)))))) _ 1 1 (by exact rdl1k (by simp only [World.size_alloc]) (bq_call HC12.out (bq_al (Below.refl _ _))) (HR7.out _ (bq_call HC11.out (bq_al HR4.out))) HN9.out.2)).mono ?_
            rintro e w13 ⟨g13, k13, rfl, hs13, hg13, hk13, hb13⟩
            have HS13 := Lib.hid hs13
            have HC13 := Lib.hid hb13
            have HK13 := Lib.hid hk13
            clear hs13 hb13 hg13 hk13
            refine hK.out _ _ ?_ (fun hHeld => ?_)
            · exact HSX.out _ (bq_call HC13.out (bq_call HC12.out (bq_al (bq_al (bq_call HC11.out (bq_al HR4.out))))))
            clear hK K
            try simp only [Act.put, List.setIfInBounds_toArray, List.set_cons_zero, List.set_cons_succ, List.getElem_toArray, List.getElem_cons_succ, List.getElem_cons_zero]
            have hbl := bld_cl s t A n c g11 g12 g13
            refine wpAnyH_take (i := 15) (oi := _) (v := .agg #[.int .i64 s, .int .i64 t, .slice A n c, .pointer (some ⟨g11, 0, none⟩), .pointer (some ⟨g12, 0, none⟩), .pointer (some ⟨g13, 0, none⟩)]) rfl (by kernel_rfl) (by kernel_rfl) (by kernel_rfl) (fun _ _ _ h => h) (Or.inl ⟨by rfl, ?_⟩) (by assumption) ?_
            · intro wS hSw
              clear hSw
              simp only [List.getElem_toArray, List.getElem_cons_succ, List.getElem_cons_zero]
              unfold execOp
              simp only [List.map_toArray, List.map_cons, List.map_nil, Act.eval]
              exact bind_val (hbl wS)
            clear hbl
            try simp only [Act.put, List.setIfInBounds_toArray, List.set_cons_zero, List.set_cons_succ, List.getElem_toArray, List.getElem_cons_succ, List.getElem_cons_zero]
            refine wpAnyH_ready (rs := [16]) (by kernel_rfl) (by simp) ?_
            refine AllReadyH.cons (o := _) rfl (fun K hK => ?_) AllReadyH.nil
            try simp only [List.getElem_toArray, List.getElem_cons_succ, List.getElem_cons_zero]
            go_simp
            refine hK.out _ _ ?_ (fun hHeld => ?_)
            · exact HSX.out _ (bq_al (bq_call HC13.out (bq_call HC12.out (bq_al (bq_al (bq_call HC11.out (bq_al HR4.out)))))))
            clear hK K
            try simp only [Act.put, List.setIfInBounds_toArray, List.set_cons_zero, List.set_cons_succ, List.getElem_toArray, List.getElem_cons_succ, List.getElem_cons_zero]
            refine wpAnyH_take (i := 17) (oi := _) (v := ?_) rfl (by kernel_rfl) (by kernel_rfl) (by kernel_rfl) (fun _ _ _ h => h) (Or.inl ⟨by rfl, ?_⟩) (by assumption) ?_
            rotate_left
            · intro wS hSw
              (try dsimp only at hSw)
              simp only [List.getElem_toArray, List.getElem_cons_succ, List.getElem_cons_zero]
              first | (go_simp; done) | (go_simp; with_reducible rfl)
            try simp only [Act.put, List.setIfInBounds_toArray, List.set_cons_zero, List.set_cons_succ, List.getElem_toArray, List.getElem_cons_succ, List.getElem_cons_zero]
            refine wpAnyH_done (by kernel_rfl) ?_ _
            as_aux_lemma =>
            clear e1 e2
            go_wp2_with fail
            go_meet
            refine ⟨w13.heap.size, g11, k11, g12, k12, g13, k13, rfl, ⟨[List.replicate N 0], [List.replicate N 0], [List.replicate M 0], ⟨box_new _ _ _, HS11.out.below (bq_al (bq_call HC13.out (bq_call HC12.out (bq_al (bq_al (Below.refl _ _)))))), HS12.out.below (bq_al (bq_call HC13.out (Below.refl _ _))), (HEM.out _ _ _ _ HS13.out).below (bq_al (Below.refl _ _)), ne_lt HS11.out.own.lt (bq_al (bq_al (Below.refl _ _))) HK12.out, ne_lt HS11.out.own.lt (bq_call HC12.out (bq_al (bq_al (Below.refl _ _)))) HK13.out, ne_lt HS12.out.own.lt (Below.refl _ _) HK13.out⟩, ⟨st0_sort N, st0_sort N, HE0.out⟩, HE1x.out⟩, ⟨(by first | exact le_lt (bq_al HR4.out) HK11.out | exact le_lt (bq_dr (bq_al HR4.out)) HK11.out), le_lt (bq_al (bq_al (bq_call HC11.out (bq_al HR4.out)))) HK12.out, le_lt (bq_call HC12.out (bq_al (bq_al (bq_call HC11.out (bq_al HR4.out))))) HK13.out⟩, (bq_al (bq_call HC13.out (bq_call HC12.out (bq_al (bq_al (bq_call HC11.out (bq_al HR4.out)))))))⟩
        · as_aux_lemma =>
          try simp only [List.getElem_toArray, List.getElem_cons_succ, List.getElem_cons_zero]
          go_simp
          refine hK.out _ _ ?_ (fun hHeld => ?_)
          · first | exact HSX.out _ (bq_al (bq_al HR4.out)) | exact HSX.out _ (bq_dr (bq_al (bq_al HR4.out)))
          clear hK K
          try simp only [Act.put, List.setIfInBounds_toArray, List.set_cons_zero, List.set_cons_succ, List.getElem_toArray, List.getElem_cons_succ, List.getElem_cons_zero]
          refine wpAnyH_ready (rs := [4, 13]) (by kernel_rfl) (by simp) ?_
          refine AllReadyH.cons (o := _) rfl (fun K hK => ?_) (AllReadyH.cons (o := _) rfl (fun K hK => ?_) AllReadyH.nil)
          · as_aux_lemma =>
            try simp only [List.getElem_toArray, List.getElem_cons_succ, List.getElem_cons_zero]
            go_simp
            go_at_call 42
            with_reducible refine (HSA.out _ (by first | exact (bq_al (bq_al HR4.out)) | exact (bq_dr (bq_al (bq_al HR4.out)))) _ 1 1 (by first | exact rdl1k (by simp only [World.size_alloc]) (bq_al (Below.refl _ _)) (HR6.out _ HR4.out) HN9.out.1 | exact rdl1k (by simp only [World.size_alloc]) (bq_dr (bq_al (Below.refl _ _))) (HR6.out _ HR4.out) HN9.out.1)).mono ?_
            rintro e w11 ⟨g11, k11, rfl, hs11, hg11, hk11, hb11⟩
            (try replace hb11 := und1 hb11)
            have HS11 := Lib.hid hs11
            have HC11 := Lib.hid hb11
            have HK11 := Lib.hid hk11
            clear hs11 hb11 hg11 hk11
            refine hK.out _ _ ?_ (fun hHeld => ?_)
            · exact HSX.out _ (bq_call HC11.out (bq_al (bq_al HR4.out)))
            clear hK K
            try simp only [Act.put, List.setIfInBounds_toArray, List.set_cons_zero, List.set_cons_succ, List.getElem_toArray, List.getElem_cons_succ, List.getElem_cons_zero]
            refine wpAnyH_ready (rs := [8, 13]) (by kernel_rfl) (by simp) ?_
            refine AllReadyH.cons (o := _) rfl (fun K hK => ?_) (AllReadyH.cons (o := _) rfl (fun K hK => ?_) AllReadyH.nil)
            · as_aux_lemma =>
              try simp only [List.getElem_toArray, List.getElem_cons_succ, List.getElem_cons_zero]
              go_simp
              go_at_call 42
              with_reducible refine (HSA.out _ (by exact (bq_call HC11.out (bq_al (bq_al HR4.out)))) _ 1 1 (by exact rdl1k (by simp only [World.size_alloc]) (bq_call HC11.out (Below.refl _ _)) (HR6.out _ (bq_al HR4.out)) HN9.out.1)).mono ?_
              rintro e w12 ⟨g12, k12, rfl, hs12, hg12, hk12, hb12⟩
              have HS12 := Lib.hid hs12
              have HC12 := Lib.hid hb12
              have HK12 := Lib.hid hk12
              clear hs12 hb12 hg12 hk12
              refine hK.out _ _ ?_ (fun hHeld => ?_)
              · exact HSX.out _ (bq_call HC12.out (bq_call HC11.out (bq_al (bq_al HR4.out))))
              clear hK K
              try simp only [Act.put, List.setIfInBounds_toArray, List.set_cons_zero, List.set_cons_succ, List.getElem_toArray, List.getElem_cons_succ, List.getElem_cons_zero]
              refine wpAnyH_ready (rs := [13]) (by kernel_rfl) (by simp) ?_
              refine AllReadyH.cons (o := _) rfl (fun K hK => ?_) AllReadyH.nil
              try simp only [List.getElem_toArray, List.getElem_cons_succ, List.getElem_cons_zero]
              go_simp
              refine hK.out _ _ ?_ (fun hHeld => ?_)
              · exact HSX.out _ (bq_al (bq_call HC12.out (bq_call HC11.out (bq_al (bq_al HR4.out)))))
              clear hK K
              try simp only [Act.put, List.setIfInBounds_toArray, List.set_cons_zero, List.set_cons_succ, List.getElem_toArray, List.getElem_cons_succ, List.getElem_cons_zero]
              refine wpAnyH_ready (rs := [14]) (by kernel_rfl) (by simp) ?_
              refine AllReadyH.cons (o := _) rfl (fun K hK => ?_) AllReadyH.nil
              try simp only [List.getElem_toArray, List.getElem_cons_succ, List.getElem_cons_zero]
              go_simp
              go_at_call 42
              with_reducible refine (HSC.out _ (by exact (bq_al (bq_call HC12.out (bq_call HC11.out (bq_al (bq_al HR4.out)))))) _ 1 1 (by exact rdl1k (by simp only [World.size_alloc]) (Below.refl _ _) (HR7.out _ (bq_call HC12.out (bq_call HC11.out (bq_al (bq_al HR4.out))))) HN9.out.2)).mono ?_
              rintro e w13 ⟨g13, k13, rfl, hs13, hg13, hk13, hb13⟩
              have HS13 := Lib.hid hs13
              have HC13 := Lib.hid hb13
              have HK13 := Lib.hid hk13
              clear hs13 hb13 hg13 hk13
              refine hK.out _ _ ?_ (fun hHeld => ?_)
              · exact HSX.out _ (bq_call HC13.out (bq_al (bq_call HC12.out (bq_call HC11.out (bq_al (bq_al HR4.out))))))
              clear hK K
              try simp only [Act.put, List.setIfInBounds_toArray, List.set_cons_zero, List.set_cons_succ, List.getElem_toArray, List.getElem_cons_succ, List.getElem_cons_zero]
              have hbl := bld_cl s t A n c g11 g12 g13
              refine wpAnyH_take (i := 15) (oi := _) (v := .agg #[.int .i64 s, .int .i64 t, .slice A n c, .pointer (some ⟨g11, 0, none⟩), .pointer (some ⟨g12, 0, none⟩), .pointer (some ⟨g13, 0, none⟩)]) rfl (by kernel_rfl) (by kernel_rfl) (by kernel_rfl) (fun _ _ _ h => h) (Or.inl ⟨by rfl, ?_⟩) (by assumption) ?_
              · intro wS hSw
                clear hSw
                simp only [List.getElem_toArray, List.getElem_cons_succ, List.getElem_cons_zero]
                unfold execOp
                simp only [List.map_toArray, List.map_cons, List.map_nil, Act.eval]
                exact bind_val (hbl wS)
              clear hbl
              try simp only [Act.put, List.setIfInBounds_toArray, List.set_cons_zero, List.set_cons_succ, List.getElem_toArray, List.getElem_cons_succ, List.getElem_cons_zero]
              refine wpAnyH_ready (rs := [16]) (by kernel_rfl) (by simp) ?_
              refine AllReadyH.cons (o := _) rfl (fun K hK => ?_) AllReadyH.nil
              try simp only [List.getElem_toArray, List.getElem_cons_succ, List.getElem_cons_zero]
              go_simp
              refine hK.out _ _ ?_ (fun hHeld => ?_)
              · exact HSX.out _ (bq_al (bq_call HC13.out (bq_al (bq_call HC12.out (bq_call HC11.out (bq_al (bq_al HR4.out)))))))
              clear hK K
              try simp only [Act.put, List.setIfInBounds_toArray, List.set_cons_zero, List.set_cons_succ, List.getElem_toArray, List.getElem_cons_succ, List.getElem_cons_zero]
              refine wpAnyH_take (i := 17) (oi := _) (v := ?_) rfl (by kernel_rfl) (by kernel_rfl) (by kernel_rfl) (fun _ _ _ h => h) (Or.inl ⟨by rfl, ?_⟩) (by assumption) ?_
              rotate_left
              · intro wS hSw
                (try dsimp only at hSw)
                simp only [List.getElem_toArray, List.getElem_cons_succ, List.getElem_cons_zero]
                first | (go_simp; done) | (go_simp; with_reducible rfl)
              try simp only [Act.put, List.setIfInBounds_toArray, List.set_cons_zero, List.set_cons_succ, List.getElem_toArray, List.getElem_cons_succ, List.getElem_cons_zero]
              refine wpAnyH_done (by kernel_rfl) ?_ _
              as_aux_lemma =>
              clear e1 e2
              go_wp2_with fail
              go_meet
              refine ⟨w13.heap.size, g11, k11, g12, k12, g13, k13, rfl, ⟨[List.replicate N 0], [List.replicate N 0], [List.replicate M 0], ⟨box_new _ _ _, HS11.out.below (bq_al (bq_call HC13.out (bq_al (bq_call HC12.out (Below.refl _ _))))), HS12.out.below (bq_al (bq_call HC13.out (bq_al (Below.refl _ _)))), (HEM.out _ _ _ _ HS13.out).below (bq_al (Below.refl _ _)), ne_lt HS11.out.own.lt (Below.refl _ _) HK12.out, ne_lt HS11.out.own.lt (bq_al (bq_call HC12.out (Below.refl _ _))) HK13.out, ne_lt HS12.out.own.lt (bq_al (Below.refl _ _)) HK13.out⟩, ⟨st0_sort N, st0_sort N, HE0.out⟩, HE1x.out⟩, ⟨(by first | exact le_lt (bq_al (bq_al HR4.out)) HK11.out | exact le_lt (bq_dr (bq_al (bq_al HR4.out))) HK11.out), le_lt (bq_call HC11.out (bq_al (bq_al HR4.out))) HK12.out, le_lt (bq_al (bq_call HC12.out (bq_call HC11.out (bq_al (bq_al HR4.out))))) HK13.out⟩, (bq_al (bq_call HC13.out (bq_al (bq_call HC12.out (bq_call HC11.out (bq_al (bq_al HR4.out)))))))⟩
            · as_aux_lemma =>
              try simp only [List.getElem_toArray, List.getElem_cons_succ, List.getElem_cons_zero]
              go_simp
              refine hK.out _ _ ?_ (fun hHeld => ?_)
              · exact HSX.out _ (bq_al (bq_call HC11.out (bq_al (bq_al HR4.out))))
              clear hK K
              try simp only [Act.put, List.setIfInBounds_toArray, List.set_cons_zero, List.set_cons_succ, List.getElem_toArray, List.getElem_cons_succ, List.getElem_cons_zero]
              refine wpAnyH_ready (rs := [8]) (by kernel_rfl) (by simp) ?_
              refine AllReadyH.cons (o := _) rfl (fun K hK => ?_) AllReadyH.nil
              try simp only [List.getElem_toArray, List.getElem_cons_succ, List.getElem_cons_zero]
              go_simp
              go_at_call 42
              with_reducible refine (HSA.out _ (by exact (bq_al (bq_call HC11.out (bq_al (bq_al HR4.out))))) _ 1 1 (by exact rdl1k (by simp only [World.size_alloc]) (bq_al (bq_call HC11.out (Below.refl _ _))) (HR6.out _ (bq_al HR4.out)) HN9.out.1)).mono ?_
              rintro e w12 ⟨g12, k12, rfl, hs12, hg12, hk12, hb12⟩
              have HS12 := Lib.hid hs12
              have HC12 := Lib.hid hb12
              have HK12 := Lib.hid hk12
              clear hs12 hb12 hg12 hk12
              refine hK.out _ _ ?_ (fun hHeld => ?_)
              · exact HSX.out _ (bq_call HC12.out (bq_al (bq_call HC11.out (bq_al (bq_al HR4.out)))))
              clear hK K
              try simp only [Act.put, List.setIfInBounds_toArray, List.set_cons_zero, List.set_cons_succ, List.getElem_toArray, List.getElem_cons_succ, List.getElem_cons_zero]
              refine wpAnyH_ready (rs := [14]) (by kernel_rfl) (by simp) ?_
              refine AllReadyH.cons (o := _) rfl (fun K hK => ?_) AllReadyH.nil
              try simp only [List.getElem_toArray, List.getElem_cons_succ, List.getElem_cons_zero]
              go_simp
              go_at_call 42
              with_reducible refine (HSC.out _ (by exact (bq_call HC12.out (bq_al (bq_call HC11.out (bq_al (bq_al HR4.out)))))) _ 1 1 (by exact rdl1k (by simp only [World.size_alloc]) (bq_call HC12.out (Below.refl _ _)) (HR7.out _ (bq_call HC11.out (bq_al (bq_al HR4.out)))) HN9.out.2)).mono ?_
              rintro e w13 ⟨g13, k13, rfl, hs13, hg13, hk13, hb13⟩
              have HS13 := Lib.hid hs13
              have HC13 := Lib.hid hb13
              have HK13 := Lib.hid hk13
              clear hs13 hb13 hg13 hk13
              refine hK.out _ _ ?_ (fun hHeld => ?_)
              · exact HSX.out _ (bq_call HC13.out (bq_call HC12.out (bq_al (bq_call HC11.out (bq_al (bq_al HR4.out))))))
              clear hK K
              try simp only [Act.put, List.setIfInBounds_toArray, List.set_cons_zero, List.set_cons_succ, List.getElem_toArray, List.getElem_cons_succ, List.getElem_cons_zero]
              have hbl := bld_cl s t A n c g11 g12 g13
              refine wpAnyH_take (i := 15) (oi := _) (v := .agg #[.int .i64 s, .int .i64 t, .slice A n c, .pointer (some ⟨g11, 0, none⟩), .pointer (some ⟨g12, 0, none⟩), .pointer (some ⟨g13, 0, none⟩)]) rfl (by kernel_rfl) (by kernel_rfl) (by kernel_rfl) (fun _ _ _ h => h) (Or.inl ⟨by rfl, ?_⟩) (by assumption) ?_
              · intro wS hSw
                clear hSw
                simp only [List.getElem_toArray, List.getElem_cons_succ, List.getElem_cons_zero]
                unfold execOp
                simp only [List.map_toArray, List.map_cons, List.map_nil, Act.eval]
                exact bind_val (hbl wS)
              clear hbl
              try simp only [Act.put, List.setIfInBounds_toArray, List.set_cons_zero, List.set_cons_succ, List.getElem_toArray, List.getElem_cons_succ, List.getElem_cons_zero]
              refine wpAnyH_ready (rs := [16]) (by kernel_rfl) (by simp) ?_
              refine AllReadyH.cons (o := _) rfl (fun K hK => ?_) AllReadyH.nil
              try simp only [List.getElem_toArray, List.getElem_cons_succ, List.getElem_cons_zero]
              go_simp
              refine hK.out _ _ ?_ (fun hHeld => ?_)
              · exact HSX.out _ (bq_al (bq_call HC13.out (bq_call HC12.out (bq_al (bq_call HC11.out (bq_al (bq_al HR4.out)))))))
              clear hK K
              try simp only [Act.put, List.setIfInBounds_toArray, List.set_cons_zero, List.set_cons_succ, List.getElem_toArray, List.getElem_cons_succ, List.getElem_cons_zero]
              refine wpAnyH_take (i := 17) (oi := _) (v := ?_) rfl (by kernel_rfl) (by kernel_rfl) (by kernel_rfl) (fun _ _ _ h => h) (Or.inl ⟨by rfl, ?_⟩) (by assumption) ?_
              rotate_left
              · intro wS hSw
                (try dsimp only at hSw)
                simp only [List.getElem_toArray, List.getElem_cons_succ, List.getElem_cons_zero]
                first | (go_simp; done) | (go_simp; with_reducible rfl)
              try simp only [Act.put, List.setIfInBounds_toArray, List.set_cons_zero, List.set_cons_succ, List.getElem_toArray, List.getElem_cons_succ, List.getElem_cons_zero]
              refine wpAnyH_done (by kernel_rfl) ?_ _
              as_aux_lemma =>
              clear e1 e2
              go_wp2_with fail
              go_meet
              refine ⟨w13.heap.size, g11, k11, g12, k12, g13, k13, rfl, ⟨[List.replicate N 0], [List.replicate N 0], [List.replicate M 0], ⟨box_new _ _ _, HS11.out.below (bq_al (bq_call HC13.out (bq_call HC12.out (bq_al (Below.refl _ _))))), HS12.out.below (bq_al (bq_call HC13.out (Below.refl _ _))), (HEM.out _ _ _ _ HS13.out).below (bq_al (Below.refl _ _)), ne_lt HS11.out.own.lt (bq_al (Below.refl _ _)) HK12.out, ne_lt HS11.out.own.lt (bq_call HC12.out (bq_al (Below.refl _ _))) HK13.out, ne_lt HS12.out.own.lt (Below.refl _ _) HK13.out⟩, ⟨st0_sort N, st0_sort N, HE0.out⟩, HE1x.out⟩, ⟨(by first | exact le_lt (bq_al (bq_al HR4.out)) HK11.out | exact le_lt (bq_dr (bq_al (bq_al HR4.out))) HK11.out), le_lt (bq_al (bq_call HC11.out (bq_al (bq_al HR4.out)))) HK12.out, le_lt (bq_call HC12.out (bq_al (bq_call HC11.out (bq_al (bq_al HR4.out))))) HK13.out⟩, (bq_al (bq_call HC13.out (bq_call HC12.out (bq_al (bq_call HC11.out (bq_al (bq_al HR4.out)))))))⟩
          · as_aux_lemma =>
            try simp only [List.getElem_toArray, List.getElem_cons_succ, List.getElem_cons_zero]
            go_simp
            refine hK.out _ _ ?_ (fun hHeld => ?_)
            · first | exact HSX.out _ (bq_al (bq_al (bq_al HR4.out))) | exact HSX.out _ (bq_dr (bq_al (bq_al (bq_al HR4.out))))
            clear hK K
            try simp only [Act.put, List.setIfInBounds_toArray, List.set_cons_zero, List.set_cons_succ, List.getElem_toArray, List.getElem_cons_succ, List.getElem_cons_zero]
            refine wpAnyH_ready (rs := [4]) (by kernel_rfl) (by simp) ?_
            refine AllReadyH.cons (o := _) rfl (fun K hK => ?_) AllReadyH.nil
            try simp only [List.getElem_toArray, List.getElem_cons_succ, List.getElem_cons_zero]
            go_simp
            go_at_call 42
            with_reducible refine (HSA.out _ (by first | exact (bq_al (bq_al (bq_al HR4.out))) | exact (bq_dr (bq_al (bq_al (bq_al HR4.out))))) _ 1 1 (by first | exact rdl1k (by simp only [World.size_alloc]) (bq_al (bq_al (Below.refl _ _))) (HR6.out _ HR4.out) HN9.out.1 | exact rdl1k (by simp only [World.size_alloc]) (bq_dr (bq_al (bq_al (Below.refl _ _)))) (HR6.out _ HR4.out) HN9.out.1)).mono ?_
            rintro e w11 ⟨g11, k11, rfl, hs11, hg11, hk11, hb11⟩
            (try replace hb11 := und1 hb11)
            have HS11 := Lib.hid hs11
            have HC11 := Lib.hid hb11
            have HK11 := Lib.hid hk11
            clear hs11 hb11 hg11 hk11
            refine hK.out _ _ ?_ (fun hHeld => ?_)
            · exact HSX.out _ (bq_call HC11.out (bq_al (bq_al (bq_al HR4.out))))
            clear hK K
            try simp only [Act.put, List.setIfInBounds_toArray, List.set_cons_zero, List.set_cons_succ, List.getElem_toArray, List.getElem_cons_succ, List.getElem_cons_zero]
            refine wpAnyH_ready (rs := [8]) (by kernel_rfl) (by simp) ?_
            refine AllReadyH.cons (o := _) rfl (fun K hK => ?_) AllReadyH.nil
            try simp only [List.getElem_toArray, List.getElem_cons_succ, List.getElem_cons_zero]
            go_simp
            go_at_call 42
            with_reducible refine (HSA.out _ (by exact (bq_call HC11.out (bq_al (bq_al (bq_al HR4.out))))) _ 1 1 (by exact rdl1k (by simp only [World.size_alloc]) (bq_call HC11.out (bq_al (Below.refl _ _))) (HR6.out _ (bq_al HR4.out)) HN9.out.1)).mono ?_
            rintro e w12 ⟨g12, k12, rfl, hs12, hg12, hk12, hb12⟩
            have HS12 := Lib.hid hs12
            have HC12 := Lib.hid hb12
            have HK12 := Lib.hid hk12
            clear hs12 hb12 hg12 hk12
            refine hK.out _ _ ?_ (fun hHeld => ?_)
            · exact HSX.out _ (bq_call HC12.out (bq_call HC11.out (bq_al (bq_al (bq_al HR4.out)))))
            clear hK K
            try simp only [Act.put, List.setIfInBounds_toArray, List.set_cons_zero, List.set_cons_succ, List.getElem_toArray, List.getElem_cons_succ, List.getElem_cons_zero]
            refine wpAnyH_ready (rs := [14]) (by kernel_rfl) (by simp) ?_
            refine AllReadyH.cons (o := _) rfl (fun K hK => ?_) AllReadyH.nil
            try simp only [List.getElem_toArray, List.getElem_cons_succ, List.getElem_cons_zero]
            go_simp
            go_at_call 42
            with_reducible refine (HSC.out _ (by exact (bq_call HC12.out (bq_call HC11.out (bq_al (bq_al (bq_al HR4.out)))))) _ 1 1 (by exact rdl1k (by simp only [World.size_alloc]) (bq_call HC12.out (bq_call HC11.out (Below.refl _ _))) (HR7.out _ (bq_al (bq_al HR4.out))) HN9.out.2)).mono ?_
            rintro e w13 ⟨g13, k13, rfl, hs13, hg13, hk13, hb13⟩
            have HS13 := Lib.hid hs13
            have HC13 := Lib.hid hb13
            have HK13 := Lib.hid hk13
            clear hs13 hb13 hg13 hk13
            refine hK.out _ _ ?_ (fun hHeld => ?_)
            · exact HSX.out _ (bq_call HC13.out (bq_call HC12.out (bq_call HC11.out (bq_al (bq_al (bq_al HR4.out))))))
            clear hK K
            try simp only [Act.put, List.setIfInBounds_toArray, List.set_cons_zero, List.set_cons_succ, List.getElem_toArray, List.getElem_cons_succ, List.getElem_cons_zero]
            have hbl := bld_cl s t A n c g11 g12 g13
            refine wpAnyH_take (i := 15) (oi := _) (v := .agg #[.int .i64 s, .int .i64 t, .slice A n c, .pointer (some ⟨g11, 0, none⟩), .pointer (some ⟨g12, 0, none⟩), .pointer (some ⟨g13, 0, none⟩)]) rfl (by kernel_rfl) (by kernel_rfl) (by kernel_rfl) (fun _ _ _ h => h) (Or.inl ⟨by rfl, ?_⟩) (by assumption) ?_
            · intro wS hSw
              clear hSw
              simp only [List.getElem_toArray, List.getElem_cons_succ, List.getElem_cons_zero]
              unfold execOp
              simp only [List.map_toArray, List.map_cons, List.map_nil, Act.eval]
              exact bind_val (hbl wS)
            clear hbl
            try simp only [Act.put, List.setIfInBounds_toArray, List.set_cons_zero, List.set_cons_succ, List.getElem_toArray, List.getElem_cons_succ, List.getElem_cons_zero]
            refine wpAnyH_ready (rs := [16]) (by kernel_rfl) (by simp) ?_
            refine AllReadyH.cons (o := _) rfl (fun K hK => ?_) AllReadyH.nil
            try simp only [List.getElem_toArray, List.getElem_cons_succ, List.getElem_cons_zero]
            go_simp
            refine hK.out _ _ ?_ (fun hHeld => ?_)
            · exact HSX.out _ (bq_al (bq_call HC13.out (bq_call HC12.out (bq_call HC11.out (bq_al (bq_al (bq_al HR4.out)))))))
            clear hK K
            try simp only [Act.put, List.setIfInBounds_toArray, List.set_cons_zero, List.set_cons_succ, List.getElem_toArray, List.getElem_cons_succ, List.getElem_cons_zero]
            refine wpAnyH_take (i := 17) (oi := _) (v := ?_) rfl (by kernel_rfl) (by kernel_rfl) (by kernel_rfl) (fun _ _ _ h => h) (Or.inl ⟨by rfl, ?_⟩) (by assumption) ?_
            rotate_left
            · intro wS hSw
              (try dsimp only at hSw)
              simp only [List.getElem_toArray, List.getElem_cons_succ, List.getElem_cons_zero]
              first | (go_simp; done) | (go_simp; with_reducible rfl)
            try simp only [Act.put, List.setIfInBounds_toArray, List.set_cons_zero, List.set_cons_succ, List.getElem_toArray, List.getElem_cons_succ, List.getElem_cons_zero]
            refine wpAnyH_done (by kernel_rfl) ?_ _
            as_aux_lemma =>
            clear e1 e2
            go_wp2_with fail
            go_meet
            refine ⟨w13.heap.size, g11, k11, g12, k12, g13, k13, rfl, ⟨[List.replicate N 0], [List.replicate N 0], [List.replicate M 0], ⟨box_new _ _ _, HS11.out.below (bq_al (bq_call HC13.out (bq_call HC12.out (Below.refl _ _)))), HS12.out.below (bq_al (bq_call HC13.out (Below.refl _ _))), (HEM.out _ _ _ _ HS13.out).below (bq_al (Below.refl _ _)), ne_lt HS11.out.own.lt (Below.refl _ _) HK12.out, ne_lt HS11.out.own.lt (bq_call HC12.out (Below.refl _ _)) HK13.out, ne_lt HS12.out.own.lt (Below.refl _ _) HK13.out⟩, ⟨st0_sort N, st0_sort N, HE0.out⟩, HE1x.out⟩, ⟨(by first | exact le_lt (bq_al (bq_al (bq_al HR4.out))) HK11.out | exact le_lt (bq_dr (bq_al (bq_al (bq_al HR4.out)))) HK11.out), le_lt (bq_call HC11.out (bq_al (bq_al (bq_al HR4.out)))) HK12.out, le_lt (bq_call HC12.out (bq_call HC11.out (bq_al (bq_al (bq_al HR4.out))))) HK13.out⟩, (bq_al (bq_call HC13.out (bq_call HC12.out (bq_call HC11.out (bq_al (bq_al (bq_al HR4.out)))))))⟩
        · as_aux_lemma =>
          try simp only [List.getElem_toArray, List.getElem_cons_succ, List.getElem_cons_zero]
          go_simp
          refine hK.out _ _ ?_ (fun hHeld => ?_)
          · first | exact HSX.out _ (bq_al (bq_al HR4.out)) | exact HSX.out _ (bq_dr (bq_al (bq_al HR4.out)))
          clear hK K
          try simp only [Act.put, List.setIfInBounds_toArray, List.set_cons_zero, List.set_cons_succ, List.getElem_toArray, List.getElem_cons_succ, List.getElem_cons_zero]
          refine wpAnyH_ready (rs := [4, 7]) (by kernel_rfl) (by simp) ?_
          refine AllReadyH.cons (o := _) rfl (fun K hK => ?_) (AllReadyH.cons (o := _) rfl (fun K hK => ?_) AllReadyH.nil)
          · as_aux_lemma =>
            try simp only [List.getElem_toArray, List.getElem_cons_succ, List.getElem_cons_zero]
            go_simp
            go_at_call 42
            with_reducible refine (HSA.out _ (by first | exact (bq_al (bq_al HR4.out)) | exact (bq_dr (bq_al (bq_al HR4.out)))) _ 1 1 (by first | exact rdl1k (by simp only [World.size_alloc]) (bq_al (Below.refl _ _)) (HR6.out _ HR4.out) HN9.out.1 | exact rdl1k (by simp only [World.size_alloc]) (bq_dr (bq_al (Below.refl _ _))) (HR6.out _ HR4.out) HN9.out.1)).mono ?_
            rintro e w11 ⟨g11, k11, rfl, hs11, hg11, hk11, hb11⟩
            (try replace hb11 := und1 hb11)
            have HS11 := Lib.hid hs11
            have HC11 := Lib.hid hb11
            have HK11 := Lib.hid hk11
            clear hs11 hb11 hg11 hk11
            refine hK.out _ _ ?_ (fun hHeld => ?_)
            · exact HSX.out _ (bq_call HC11.out (bq_al (bq_al HR4.out)))
            clear hK K
            try simp only [Act.put, List.setIfInBounds_toArray, List.set_cons_zero, List.set_cons_succ, List.getElem_toArray, List.getElem_cons_succ, List.getElem_cons_zero]
            refine wpAnyH_ready (rs := [7]) (by kernel_rfl) (by simp) ?_
            refine AllReadyH.cons (o := _) rfl (fun K hK => ?_) AllReadyH.nil
            try simp only [List.getElem_toArray, List.getElem_cons_succ, List.getElem_cons_zero]
            go_simp
            refine hK.out _ _ ?_ (fun hHeld => ?_)
            · exact HSX.out _ (bq_al (bq_call HC11.out (bq_al (bq_al HR4.out))))
            clear hK K
            try simp only [Act.put, List.setIfInBounds_toArray, List.set_cons_zero, List.set_cons_succ, List.getElem_toArray, List.getElem_cons_succ, List.getElem_cons_zero]
            refine wpAnyH_ready (rs := [8]) (by kernel_rfl) (by simp) ?_
            refine AllReadyH.cons (o := _) rfl (fun K hK => ?_) AllReadyH.nil
            try simp only [List.getElem_toArray, List.getElem_cons_succ, List.getElem_cons_zero]
            go_simp
            go_at_call 42
            with_reducible refine (HSA.out _ (by exact (bq_al (bq_call HC11.out (bq_al (bq_al HR4.out))))) _ 1 1 (by exact rdl1k (by simp only [World.size_alloc]) (Below.refl _ _) (HR6.out _ (bq_call HC11.out (bq_al (bq_al HR4.out)))) HN9.out.1)).mono ?_
            rintro e w12 ⟨g12, k12, rfl, hs12, hg12, hk12, hb12⟩
            have HS12 := Lib.hid hs12
            have HC12 := Lib.hid hb12
            have HK12 := Lib.hid hk12
            clear hs12 hb12 hg12 hk12
            refine hK.out _ _ ?_ (fun hHeld => ?_)
            · exact HSX.out _ (bq_call HC12.out (bq_al (bq_call HC11.out (bq_al (bq_al HR4.out)))))
            clear hK K
            try simp only [Act.put, List.setIfInBounds_toArray, List.set_cons_zero, List.set_cons_succ, List.getElem_toArray, List.getElem_cons_succ, List.getElem_cons_zero]
            refine wpAnyH_ready (rs := [14]) (by kernel_rfl) (by simp) ?_
            refine AllReadyH.cons (o := _) rfl (fun K hK => ?_) AllReadyH.nil
            try simp only [List.getElem_toArray, List.getElem_cons_succ, List.getElem_cons_zero]
            go_simp
            go_at_call 42
            with_reducible refine (HSC.out _ (by exact (bq_call HC12.out (bq_al (bq_call HC11.out (bq_al (bq_al HR4.out)))))) _ 1 1 (by exact rdl1k (by simp only [World.size_alloc]) (bq_call HC12.out (bq_al (bq_call HC11.out (Below.refl _ _)))) (HR7.out _ (bq_al HR4.out)) HN9.out.2)).mono ?_
            rintro e w13 ⟨g13, k13, rfl, hs13, hg13, hk13, hb13⟩
            have HS13 := Lib.hid hs13
            have HC13 := Lib.hid hb13
            have HK13 := Lib.hid hk13
            clear hs13 hb13 hg13 hk13
            refine hK.out _ _ ?_ (fun hHeld => ?_)
            · exact HSX.out _ (bq_call HC13.out (bq_call HC12.out (bq_al (bq_call HC11.out (bq_al (bq_al HR4.out))))))
            clear hK K
            try simp only [Act.put, List.setIfInBounds_toArray, List.set_cons_zero, List.set_cons_succ, List.getElem_toArray, List.getElem_cons_succ, List.getElem_cons_zero]
            have hbl := bld_cl s t A n c g11 g12 g13
            refine wpAnyH_take (i := 15) (oi := _) (v := .agg #[.int .i64 s, .int .i64 t, .slice A n c, .pointer (some ⟨g11, 0, none⟩), .pointer (some ⟨g12, 0, none⟩), .pointer (some ⟨g13, 0, none⟩)]) rfl (by kernel_rfl) (by kernel_rfl) (by kernel_rfl) (fun _ _ _ h => h) (Or.inl ⟨by rfl, ?_⟩) (by assumption) ?_
            · intro wS hSw
              clear hSw
              simp only [List.getElem_toArray, List.getElem_cons_succ, List.getElem_cons_zero]
              unfold execOp
              simp only [List.map_toArray, List.map_cons, List.map_nil, Act.eval]
              exact bind_val (hbl wS)
            clear hbl
            try simp only [Act.put, List.setIfInBounds_toArray, List.set_cons_zero, List.set_cons_succ, List.getElem_toArray, List.getElem_cons_succ, List.getElem_cons_zero]
            refine wpAnyH_ready (rs := [16]) (by kernel_rfl) (by simp) ?_
            refine AllReadyH.cons (o := _) rfl (fun K hK => ?_) AllReadyH.nil
            try simp only [List.getElem_toArray, List.getElem_cons_succ, List.getElem_cons_zero]
            go_simp
            refine hK.out _ _ ?_ (fun hHeld => ?_)
            · exact HSX.out _ (bq_al (bq_call HC13.out (bq_call HC12.out (bq_al (bq_call HC11.out (bq_al (bq_al HR4.out)))))))
            clear hK K
            try simp only [Act.put, List.setIfInBounds_toArray, List.set_cons_zero, List.set_cons_succ, List.getElem_toArray, List.getElem_cons_succ, List.getElem_cons_zero]
            refine wpAnyH_take (i := 17) (oi := _) (v := ?_) rfl (by kernel_rfl) (by kernel_rfl) (by kernel_rfl) (fun _ _ _ h => h) (Or.inl ⟨by rfl, ?_⟩) (by assumption) ?_
            rotate_left
            · intro wS hSw
              (try dsimp only at hSw)
              simp only [List.getElem_toArray, List.getElem_cons_succ, List.getElem_cons_zero]
              first | (go_simp; done) | (go_simp; with_reducible rfl)
            try simp only [Act.put, List.setIfInBounds_toArray, List.set_cons_zero, List.set_cons_succ, List.getElem_toArray, List.getElem_cons_succ, List.getElem_cons_zero]
            refine wpAnyH_done (by kernel_rfl) ?_ _
            as_aux_lemma =>
            clear e1 e2
            go_wp2_with fail
            go_meet
            refine ⟨w13.heap.size, g11, k11, g12, k12, g13, k13, rfl, ⟨[List.replicate N 0], [List.replicate N 0], [List.replicate M 0], ⟨box_new _ _ _, HS11.out.below (bq_al (bq_call HC13.out (bq_call HC12.out (bq_al (Below.refl _ _))))), HS12.out.below (bq_al (bq_call HC13.out (Below.refl _ _))), (HEM.out _ _ _ _ HS13.out).below (bq_al (Below.refl _ _)), ne_lt HS11.out.own.lt (bq_al (Below.refl _ _)) HK12.out, ne_lt HS11.out.own.lt (bq_call HC12.out (bq_al (Below.refl _ _))) HK13.out, ne_lt HS12.out.own.lt (Below.refl _ _) HK13.out⟩, ⟨st0_sort N, st0_sort N, HE0.out⟩, HE1x.out⟩, ⟨(by first | exact le_lt (bq_al (bq_al HR4.out)) HK11.out | exact le_lt (bq_dr (bq_al (bq_al HR4.out))) HK11.out), le_lt (bq_al (bq_call HC11.out (bq_al (bq_al HR4.out)))) HK12.out, le_lt (bq_call HC12.out (bq_al (bq_call HC11.out (bq_al (bq_al HR4.out))))) HK13.out⟩, (bq_al (bq_call HC13.out (bq_call HC12.out (bq_al (bq_call HC11.out (bq_al (bq_al HR4.out)))))))⟩
          · as_aux_lemma =>
            try simp only [List.getElem_toArray, List.getElem_cons_succ, List.getElem_cons_zero]
            go_simp
            refine hK.out _ _ ?_ (fun hHeld => ?_)
            · first | exact HSX.out _ (bq_al (bq_al (bq_al HR4.out))) | exact HSX.out _ (bq_dr (bq_al (bq_al (bq_al HR4.out))))
            clear hK K
            try simp only [Act.put, List.setIfInBounds_toArray, List.set_cons_zero, List.set_cons_succ, List.getElem_toArray, List.getElem_cons_succ, List.getElem_cons_zero]
            refine wpAnyH_ready (rs := [4]) (by kernel_rfl) (by simp) ?_
            refine AllReadyH.cons (o := _) rfl (fun K hK => ?_) AllReadyH.nil
            try simp only [List.getElem_toArray, List.getElem_cons_succ, List.getElem_cons_zero]
            go_simp
            go_at_call 42
            with_reducible refine (HSA.out _ (by first | exact (bq_al (bq_al (bq_al HR4.out))) | exact (bq_dr (bq_al (bq_al (bq_al HR4.out))))) _ 1 1 (by first | exact rdl1k (by simp only [World.size_alloc]) (bq_al (bq_al (Below.refl _ _))) (HR6.out _ HR4.out) HN9.out.1 | exact rdl1k (by simp only [World.size_alloc]) (bq_dr (bq_al (bq_al (Below.refl _ _)))) (HR6.out _ HR4.out) HN9.out.1)).mono ?_
            rintro e w11 ⟨g11, k11, rfl, hs11, hg11, hk11, hb11⟩
            (try replace hb11 := und1 hb11)
            have HS11 := Lib.hid hs11
            have HC11 := Lib.hid hb11
            have HK11 := Lib.hid hk11
            clear hs11 hb11 hg11 hk11
            refine hK.out _ _ ?_ (fun hHeld => ?_)
            · exact HSX.out _ (bq_call HC11.out (bq_al (bq_al (bq_al HR4.out))))
            clear hK K
            try simp only [Act.put, List.setIfInBounds_toArray, List.set_cons_zero, List.set_cons_succ, List.getElem_toArray, List.getElem_cons_succ, List.getElem_cons_zero]
            refine wpAnyH_ready (rs := [8]) (by kernel_rfl) (by simp) ?_
            refine AllReadyH.cons (o := _) rfl (fun K hK => ?_) AllReadyH.nil
            try simp only [List.getElem_toArray, List.getElem_cons_succ, List.getElem_cons_zero]
            go_simp
            go_at_call 42
            with_reducible refine (HSA.out _ (by exact (bq_call HC11.out (bq_al (bq_al (bq_al HR4.out))))) _ 1 1 (by exact rdl1k (by simp only [World.size_alloc]) (bq_call HC11.out (Below.refl _ _)) (HR6.out _ (bq_al (bq_al HR4.out))) HN9.out.1)).mono ?_
            rintro e w12 ⟨g12, k12, rfl, hs12, hg12, hk12, hb12⟩
            have HS12 := Lib.hid hs12
            have HC12 := Lib.hid hb12
            have HK12 := Lib.hid hk12
            clear hs12 hb12 hg12 hk12
            refine hK.out _ _ ?_ (fun hHeld => ?_)
            · exact HSX.out _ (bq_call HC12.out (bq_call HC11.out (bq_al (bq_al (bq_al HR4.out)))))
            clear hK K
            try simp only [Act.put, List.setIfInBounds_toArray, List.set_cons_zero, List.set_cons_succ, List.getElem_toArray, List.getElem_cons_succ, List.getElem_cons_zero]
            refine wpAnyH_ready (rs := [14]) (by kernel_rfl) (by simp) ?_
            refine AllReadyH.cons (o := _) rfl (fun K hK => ?_) AllReadyH.nil
            try simp only [List.getElem_toArray, List.getElem_cons_succ, List.getElem_cons_zero]
            go_simp
            go_at_call 42
            with_reducible refine (HSC.out _ (by exact (bq_call HC12.out (bq_call HC11.out (bq_al (bq_al (bq_al HR4.out)))))) _ 1 1 (by exact rdl1k (by simp only [World.size_alloc]) (bq_call HC12.out (bq_call HC11.out (bq_al (Below.refl _ _)))) (HR7.out _ (bq_al HR4.out)) HN9.out.2)).mono ?_
            rintro e w13 ⟨g13, k13, rfl, hs13, hg13, hk13, hb13⟩
            have HS13 := Lib.hid hs13
            have HC13 := Lib.hid hb13
            have HK13 := Lib.hid hk13
            clear hs13 hb13 hg13 hk13
            refine hK.out _ _ ?_ (fun hHeld => ?_)
            · exact HSX.out _ (bq_call HC13.out (bq_call HC12.out (bq_call HC11.out (bq_al (bq_al (bq_al HR4.out))))))
            clear hK K
            try simp only [Act.put, List.setIfInBounds_toArray, List.set_cons_zero, List.set_cons_succ, List.getElem_toArray, List.getElem_cons_succ, List.getElem_cons_zero]
            have hbl := bld_cl s t A n c g11 g12 g13
            refine wpAnyH_take (i := 15) (oi := _) (v := .agg #[.int .i64 s, .int .i64 t, .slice A n c, .pointer (some ⟨g11, 0, none⟩), .pointer (some ⟨g12, 0, none⟩), .pointer (some ⟨g13, 0, none⟩)]) rfl (by kernel_rfl) (by kernel_rfl) (by kernel_rfl) (fun _ _ _ h => h) (Or.inl ⟨by rfl, ?_⟩) (by assumption) ?_
            · intro wS hSw
              clear hSw
              simp only [List.getElem_toArray, List.getElem_cons_succ, List.getElem_cons_zero]
              unfold execOp
              simp only [List.map_toArray, List.map_cons, List.map_nil, Act.eval]
              exact bind_val (hbl wS)
            clear hbl
            try simp only [Act.put, List.setIfInBounds_toArray, List.set_cons_zero, List.set_cons_succ, List.getElem_toArray, List.getElem_cons_succ, List.getElem_cons_zero]
            refine wpAnyH_ready (rs := [16]) (by kernel_rfl) (by simp) ?_
            refine AllReadyH.cons (o := _) rfl (fun K hK => ?_) AllReadyH.nil
            try simp only [List.getElem_toArray, List.getElem_cons_succ, List.getElem_cons_zero]
            go_simp
            refine hK.out _ _ ?_ (fun hHeld => ?_)
            · exact HSX.out _ (bq_al (bq_call HC13.out (bq_call HC12.out (bq_call HC11.out (bq_al (bq_al (bq_al HR4.out)))))))
            clear hK K
            try simp only [Act.put, List.setIfInBounds_toArray, List.set_cons_zero, List.set_cons_succ, List.getElem_toArray, List.getElem_cons_succ, List.getElem_cons_zero]
            refine wpAnyH_take (i := 17) (oi := _) (v := ?_) rfl (by kernel_rfl) (by kernel_rfl) (by kernel_rfl) (fun _ _ _ h => h) (Or.inl ⟨by rfl, ?_⟩) (by assumption) ?_
            rotate_left
            · intro wS hSw
              (try dsimp only at hSw)
              simp only [List.getElem_toArray, List.getElem_cons_succ, List.getElem_cons_zero]
              first | (go_simp; done) | (go_simp; with_reducible rfl)
            try simp only [Act.put, List.setIfInBounds_toArray, List.set_cons_zero, List.set_cons_succ, List.getElem_toArray, List.getElem_cons_succ, List.getElem_cons_zero]
            refine wpAnyH_done (by kernel_rfl) ?_ _
            as_aux_lemma =>
            clear e1 e2
            go_wp2_with fail
            go_meet
            refine ⟨w13.heap.size, g11, k11, g12, k12, g13, k13, rfl, ⟨[List.replicate N 0], [List.replicate N 0], [List.replicate M 0], ⟨box_new _ _ _, HS11.out.below (bq_al (bq_call HC13.out (bq_call HC12.out (Below.refl _ _)))), HS12.out.below (bq_al (bq_call HC13.out (Below.refl _ _))), (HEM.out _ _ _ _ HS13.out).below (bq_al (Below.refl _ _)), ne_lt HS11.out.own.lt (Below.refl _ _) HK12.out, ne_lt HS11.out.own.lt (bq_call HC12.out (Below.refl _ _)) HK13.out, ne_lt HS12.out.own.lt (Below.refl _ _) HK13.out⟩, ⟨st0_sort N, st0_sort N, HE0.out⟩, HE1x.out⟩, ⟨(by first | exact le_lt (bq_al (bq_al (bq_al HR4.out))) HK11.out | exact le_lt (bq_dr (bq_al (bq_al (bq_al HR4.out)))) HK11.out), le_lt (bq_call HC11.out (bq_al (bq_al (bq_al HR4.out)))) HK12.out, le_lt (bq_call HC12.out (bq_call HC11.out (bq_al (bq_al (bq_al HR4.out))))) HK13.out⟩, (bq_al (bq_call HC13.out (bq_call HC12.out (bq_call HC11.out (bq_al (bq_al (bq_al HR4.out)))))))⟩
      · as_aux_lemma =>
        try simp only [List.getElem_toArray, List.getElem_cons_succ, List.getElem_cons_zero]
        go_simp
        refine hK.out _ _ ?_ (fun hHeld => ?_)
        · first | exact HSX.out _ (bq_al HR4.out) | exact HSX.out _ (bq_dr (bq_al HR4.out))
        clear hK K
        try simp only [Act.put, List.setIfInBounds_toArray, List.set_cons_zero, List.set_cons_succ, List.getElem_toArray, List.getElem_cons_succ, List.getElem_cons_zero]
        refine wpAnyH_ready (rs := [3, 13]) (by kernel_rfl) (by simp) ?_
        refine AllReadyH.cons (o := _) rfl (fun K hK => ?_) (AllReadyH.cons (o := _) rfl (fun K hK => ?_) AllReadyH.nil)
        · as_aux_lemma =>
          try simp only [List.getElem_toArray, List.getElem_cons_succ, List.getElem_cons_zero]
          go_simp
          refine hK.out _ _ ?_ (fun hHeld => ?_)
          · first | exact HSX.out _ (bq_al (bq_al HR4.out)) | exact HSX.out _ (bq_dr (bq_al (bq_al HR4.out)))
          clear hK K
          try simp only [Act.put, List.setIfInBounds_toArray, List.set_cons_zero, List.set_cons_succ, List.getElem_toArray, List.getElem_cons_succ, List.getElem_cons_zero]
          refine wpAnyH_ready (rs := [4, 13]) (by kernel_rfl) (by simp) ?_
          refine AllReadyH.cons (o := _) rfl (fun K hK => ?_) (AllReadyH.cons (o := _) rfl (fun K hK => ?_) AllReadyH.nil)
          · as_aux_lemma =>
            try simp only [List.getElem_toArray, List.getElem_cons_succ, List.getElem_cons_zero]
            go_simp
            go_at_call 42
            with_reducible refine (HSA.out _ (by first | exact (bq_al (bq_al HR4.out)) | exact (bq_dr (bq_al (bq_al HR4.out)))) _ 1 1 (by first | exact rdl1k (by simp only [World.size_alloc]) (Below.refl _ _) (HR6.out _ (bq_al HR4.out)) HN9.out.1 | exact rdl1k (by simp only [World.size_alloc]) (bq_dr (Below.refl _ _)) (HR6.out _ (bq_al HR4.out)) HN9.out.1)).mono ?_
            rintro e w11 ⟨g11, k11, rfl, hs11, hg11, hk11, hb11⟩
            (try replace hb11 := und1 hb11)
            have HS11 := Lib.hid hs11
            have HC11 := Lib.hid hb11
            have HK11 := Lib.hid hk11
            clear hs11 hb11 hg11 hk11
            refine hK.out _ _ ?_ (fun hHeld => ?_)
            · exact HSX.out _ (bq_call HC11.out (bq_al (bq_al HR4.out)))
            clear hK K
            try simp only [Act.put, List.setIfInBounds_toArray, List.set_cons_zero, List.set_cons_succ, List.getElem_toArray, List.getElem_cons_succ, List.getElem_cons_zero]
            refine wpAnyH_ready (rs := [8, 13]) (by kernel_rfl) (by simp) ?_
            refine AllReadyH.cons (o := _) rfl (fun K hK => ?_) (AllReadyH.cons (o := _) rfl (fun K hK => ?_) AllReadyH.nil)
            · as_aux_lemma =>
              try simp only [List.getElem_toArray, List.getElem_cons_succ, List.getElem_cons_zero]
              go_simp
              go_at_call 42
              with_reducible refine (HSA.out _ (by exact (bq_call HC11.out (bq_al (bq_al HR4.out)))) _ 1 1 (by exact rdl1k (by simp only [World.size_alloc]) (bq_call HC11.out (bq_al (Below.refl _ _))) (HR6.out _ HR4.out) HN9.out.1)).mono ?_
              rintro e w12 ⟨g12, k12, rfl, hs12, hg12, hk12, hb12⟩
              have HS12 := Lib.hid hs12
              have HC12 := Lib.hid hb12
              have HK12 := Lib.hid hk12
              clear hs12 hb12 hg12 hk12
              refine hK.out _ _ ?_ (fun hHeld => ?_)
              · exact HSX.out _ (bq_call HC12.out (bq_call HC11.out (bq_al (bq_al HR4.out))))
              clear hK K
              try simp only [Act.put, List.setIfInBounds_toArray, List.set_cons_zero, List.set_cons_succ, List.getElem_toArray, List.getElem_cons_succ, List.getElem_cons_zero]
              refine wpAnyH_ready (rs := [13]) (by kernel_rfl) (by simp) ?_
              refine AllReadyH.cons (o := _) rfl (fun K hK => ?_) AllReadyH.nil
              try simp only [List.getElem_toArray, List.getElem_cons_succ, List.getElem_cons_zero]
              go_simp
              refine hK.out _ _ ?_ (fun hHeld => ?_)
              · exact HSX.out _ (bq_al (bq_call HC12.out (bq_call HC11.out (bq_al (bq_al HR4.out)))))
              clear hK K
              try simp only [Act.put, List.setIfInBounds_toArray, List.set_cons_zero, List.set_cons_succ, List.getElem_toArray, List.getElem_cons_succ, List.getElem_cons_zero]
              refine wpAnyH_ready (rs := [14]) (by kernel_rfl) (by simp) ?_
              refine AllReadyH.cons (o := _) rfl (fun K hK => ?_) AllReadyH.nil
              try simp only [List.getElem_toArray, List.getElem_cons_succ, List.getElem_cons_zero]
              go_simp
              go_at_call 42
              with_reducible refine (HSC.out _ (by exact (bq_al (bq_call HC12.out (bq_call HC11.out (bq_al (bq_al HR4.out)))))) _ 1 1 (by exact rdl1k (by simp only [World.size_alloc]) (Below.refl _ _) (HR7.out _ (bq_call HC12.out (bq_call HC11.out (bq_al (bq_al HR4.out))))) HN9.out.2)).mono ?_
              rintro e w13 ⟨g13, k13, rfl, hs13, hg13, hk13, hb13⟩
              have HS13 := Lib.hid hs13
              have HC13 := Lib.hid hb13
              have HK13 := Lib.hid hk13
              clear hs13 hb13 hg13 hk13
              refine hK.out _ _ ?_ (fun hHeld => ?_)
              · exact HSX.out _ (bq_call HC13.out (bq_al (bq_call HC12.out (bq_call HC11.out (bq_al (bq_al HR4.out))))))
              clear hK K
              try simp only [Act.put, List.setIfInBounds_toArray, List.set_cons_zero, List.set_cons_succ, List.getElem_toArray, List.getElem_cons_succ, List.getElem_cons_zero]
              have hbl := bld_cl s t A n c g11 g12 g13
              refine wpAnyH_take (i := 15) (oi := _) (v := .agg #[.int .i64 s, .int .i64 t, .slice A n c, .pointer (some ⟨g11, 0, none⟩), .pointer (some ⟨g12, 0, none⟩), .pointer (some ⟨g13, 0, none⟩)]) rfl (by kernel_rfl) (by kernel_rfl) (by kernel_rfl) (fun _ _ _ h => h) (Or.inl ⟨by rfl, ?_⟩) (by assumption) ?_
              · intro wS hSw
                clear hSw
                simp only [List.getElem_toArray, List.getElem_cons_succ, List.getElem_cons_zero]
                unfold execOp
                simp only [List.map_toArray, List.map_cons, List.map_nil, Act.eval]
                exact bind_val (hbl wS)
              clear hbl
              try simp only [Act.put, List.setIfInBounds_toArray, List.set_cons_zero, List.set_cons_succ, List.getElem_toArray, List.getElem_cons_succ, List.getElem_cons_zero]
              refine wpAnyH_ready (rs := [16]) (by kernel_rfl) (by simp) ?_
              refine AllReadyH.cons (o := _) rfl (fun K hK => ?_) AllReadyH.nil
              try simp only [List.getElem_toArray, List.getElem_cons_succ, List.getElem_cons_zero]
              go_simp
              refine hK.out _ _ ?_ (fun hHeld => ?_)
              · exact HSX.out _ (bq_al (bq_call HC13.out (bq_al (bq_call HC12.out (bq_call HC11.out (bq_al (bq_al HR4.out)))))))
              clear hK K
              try simp only [Act.put, List.setIfInBounds_toArray, List.set_cons_zero, List.set_cons_succ, List.getElem_toArray, List.getElem_cons_succ, List.getElem_cons_zero]
              refine wpAnyH_take (i := 17) (oi := _) (v := ?_) rfl (by kernel_rfl) (by kernel_rfl) (by kernel_rfl) (fun _ _ _ h => h) (Or.inl ⟨by rfl, ?_⟩) (by assumption) ?_
              rotate_left
              · intro wS hSw
                (try dsimp only at hSw)
                simp only [List.getElem_toArray, List.getElem_cons_succ, List.getElem_cons_zero]
                first | (go_simp; done) | (go_simp; with_reducible rfl)
              try simp only [Act.put, List.setIfInBounds_toArray, List.set_cons_zero, List.set_cons_succ, List.getElem_toArray, List.getElem_cons_succ, List.getElem_cons_zero]
              refine wpAnyH_done (by kernel_rfl) ?_ _
              as_aux_lemma =>
              clear e1 e2
              go_wp2_with fail
              go_meet
              refine ⟨w13.heap.size, g11, k11, g12, k12, g13, k13, rfl, ⟨[List.replicate N 0], [List.replicate N 0], [List.replicate M 0], ⟨box_new _ _ _, HS11.out.below (bq_al (bq_call HC13.out (bq_al (bq_call HC12.out (Below.refl _ _))))), HS12.out.below (bq_al (bq_call HC13.out (bq_al (Below.refl _ _)))), (HEM.out _ _ _ _ HS13.out).below (bq_al (Below.refl _ _)), ne_lt HS11.out.own.lt (Below.refl _ _) HK12.out, ne_lt HS11.out.own.lt (bq_al (bq_call HC12.out (Below.refl _ _))) HK13.out, ne_lt HS12.out.own.lt (bq_al (Below.refl _ _)) HK13.out⟩, ⟨st0_sort N, st0_sort N, HE0.out⟩, HE1x.out⟩, ⟨(by first | exact le_lt (bq_al (bq_al HR4.out)) HK11.out | exact le_lt (bq_dr (bq_al (bq_al HR4.out))) HK11.out), le_lt (bq_call HC11.out (bq_al (bq_al HR4.out))) HK12.out, le_lt (bq_al (bq_call HC12.out (bq_call HC11.out (bq_al (bq_al HR4.out))))) HK13.out⟩, (bq_al (bq_call HC13.out (bq_al (bq_call HC12.out (bq_call HC11.out (bq_al (bq_al HR4.out)))))))⟩
            · as_aux_lemma =>
              try simp only [List.getElem_toArray, List.getElem_cons_succ, List.getElem_cons_zero]
              go_simp
              refine hK.out _ _ ?_ (fun hHeld => ?_)
              · exact HSX.out _ (bq_al (bq_call HC11.out (bq_al (bq_al HR4.out))))
              clear hK K
              try simp only [Act.put, List.setIfInBounds_toArray, List.set_cons_zero, List.set_cons_succ, List.getElem_toArray, List.getElem_cons_succ, List.getElem_cons_zero]
              refine wpAnyH_ready (rs := [8]) (by kernel_rfl) (by simp) ?_
              refine AllReadyH.cons (o := _) rfl (fun K hK => ?_) AllReadyH.nil
              try simp only [List.getElem_toArray, List.getElem_cons_succ, List.getElem_cons_zero]
              go_simp
              go_at_call 42
              with_reducible refine (HSA.out _ (by exact (bq_al (bq_call HC11.out (bq_al (bq_al HR4.out))))) _ 1 1 (by exact rdl1k (by simp only [World.size_alloc]) (bq_al (bq_call HC11.out (bq_al (Below.refl _ _)))) (HR6.out _ HR4.out) HN9.out.1)).mono ?_
              rintro e w12 ⟨g12, k12, rfl, hs12, hg12, hk12, hb12⟩
              have HS12 := Lib.hid hs12
              have HC12 := Lib.hid hb12
              have HK12 := Lib.hid hk12
              clear hs12 hb12 hg12 hk12
              refine hK.out _ _ ?_ (fun hHeld => ?_)
              · exact HSX.out _ (bq_call HC12.out (bq_al (bq_call HC11.out (bq_al (bq_al HR4.out)))))
              clear hK K
              try simp only [Act.put, List.setIfInBounds_toArray, List.set_cons_zero, List.set_cons_succ, List.getElem_toArray, List.getElem_cons_succ, List.getElem_cons_zero]
              refine wpAnyH_ready (rs := [14]) (by kernel_rfl) (by simp) ?_
              refine AllReadyH.cons (o := _) rfl (fun K hK => ?_) AllReadyH.nil
              try simp only [List.getElem_toArray, List.getElem_cons_succ, List.getElem_cons_zero]
              go_simp
              go_at_call 42
              with_reducible refine (HSC.out _ (by exact (bq_call HC12.out (bq_al (bq_call HC11.out (bq_al (bq_al HR4.out)))))) _ 1 1 (by exact rdl1k (by simp only [World.size_alloc]) (bq_call HC12.out (Below.refl _ _)) (HR7.out _ (bq_call HC11.out (bq_al (bq_al HR4.out)))) HN9.out.2)).mono ?_
              rintro e w13 ⟨g13, k13, rfl, hs13, hg13, hk13, hb13⟩
              have HS13 := Lib.hid hs13
              have HC13 := Lib.hid hb13
              have HK13 := Lib.hid hk13
              clear hs13 hb13 hg13 hk13
              refine hK.out _ _ ?_ (fun hHeld => ?_)
              · exact HSX.out _ (bq_call HC13.out (bq_call HC12.out (bq_al (bq_call HC11.out (bq_al (bq_al HR4.out))))))
              clear hK K
              try simp only [Act.put, List.setIfInBounds_toArray, List.set_cons_zero, List.set_cons_succ, List.getElem_toArray, List.getElem_cons_succ, List.getElem_cons_zero]
              have hbl := bld_cl s t A n c g11 g12 g13
              refine wpAnyH_take (i := 15) (oi := _) (v := .agg #[.int .i64 s, .int .i64 t, .slice A n c, .pointer (some ⟨g11, 0, none⟩), .pointer (some ⟨g12, 0, none⟩), .pointer (some ⟨g13, 0, none⟩)]) rfl (by kernel_rfl) (by kernel_rfl) (by kernel_rfl) (fun _ _ _ h => h) (Or.inl ⟨by rfl, ?_⟩) (by assumption) ?_
              · intro wS hSw
                clear hSw
                simp only [List.getElem_toArray, List.getElem_cons_succ, List.getElem_cons_zero]
                unfold execOp
                simp only [List.map_toArray, List.map_cons, List.map_nil, Act.eval]
                exact bind_val (hbl wS)
              clear hbl
              try simp only [Act.put, List.setIfInBounds_toArray, List.set_cons_zero, List.set_cons_succ, List.getElem_toArray, List.getElem_cons_succ, List.getElem_cons_zero]
              refine wpAnyH_ready (rs := [16]) (by kernel_rfl) (by simp) ?_
              refine AllReadyH.cons (o := _) rfl (fun K hK => ?_) AllReadyH.nil
              try simp only [List.getElem_toArray, List.getElem_cons_succ, List.getElem_cons_zero]
              go_simp
              refine hK.out _ _ ?_ (fun hHeld => ?_)
              · exact HSX.out _ (bq_al (bq_call HC13.out (bq_call HC12.out (bq_al (bq_call HC11.out (bq_al (bq_al HR4.out)))))))
              clear hK K
              try simp only [Act.put, List.setIfInBounds_toArray, List.set_cons_zero, List.set_cons_succ, List.getElem_toArray, List.getElem_cons_succ, List.getElem_cons_zero]
              refine wpAnyH_take (i := 17) (oi := _) (v := ?_) rfl (by kernel_rfl) (by kernel_rfl) (by kernel_rfl) (fun _ _ _ h => h) (Or.inl ⟨by rfl, ?_⟩) (by assumption) ?_
              rotate_left
              · intro wS hSw
                (try dsimp only at hSw)
                simp only [List.getElem_toArray, List.getElem_cons_succ, List.getElem_cons_zero]
                first | (go_simp; done) | (go_simp; with_reducible rfl)
              try simp only [Act.put, List.setIfInBounds_toArray, List.set_cons_zero, List.set_cons_succ, List.getElem_toArray, List.getElem_cons_succ, List.getElem_cons_zero]
              refine wpAnyH_done (by kernel_rfl) ?_ _
              as_aux_lemma =>
              clear e1 e2
              go_wp2_with fail
              go_meet
              refine ⟨w13.heap.size, g11, k11, g12, k12, g13, k13, rfl, ⟨[List.replicate N 0], [List.replicate N 0], [List.replicate M 0], ⟨box_new _ _ _, HS11.out.below (bq_al (bq_call HC13.out (bq_call HC12.out (bq_al (Below.refl _ _))))), HS12.out.below (bq_al (bq_call HC13.out (Below.refl _ _))), (HEM.out _ _ _ _ HS13.out).below (bq_al (Below.refl _ _)), ne_lt HS11.out.own.lt (bq_al (Below.refl _ _)) HK12.out, ne_lt HS11.out.own.lt (bq_call HC12.out (bq_al (Below.refl _ _))) HK13.out, ne_lt HS12.out.own.lt (Below.refl _ _) HK13.out⟩, ⟨st0_sort N, st0_sort N, HE0.out⟩, HE1x.out⟩, ⟨(by first | exact le_lt (bq_al (bq_al HR4.out)) HK11.out | exact le_lt (bq_dr (bq_al (bq_al HR4.out))) HK11.out), le_lt (bq_al (bq_call HC11.out (bq_al (bq_al HR4.out)))) HK12.out, le_lt (bq_call HC12.out (bq_al (bq_call HC11.out (bq_al (bq_al HR4.out))))) HK13.out⟩, (bq_al (bq_call HC13.out (bq_call HC12.out (bq_al (bq_call HC11.out (bq_al (bq_al HR4.out)))))))⟩
          · as_aux_lemma =>
            try simp only [List.getElem_toArray, List.getElem_cons_succ, List.getElem_cons_zero]
            go_simp
            refine hK.out _ _ ?_ (fun hHeld => ?_)
            · first | exact HSX.out _ (bq_al (bq_al (bq_al HR4.out))) | exact HSX.out _ (bq_dr (bq_al (bq_al (bq_al HR4.out))))
            clear hK K
            try simp only [Act.put, List.setIfInBounds_toArray, List.set_cons_zero, List.set_cons_succ, List.getElem_toArray, List.getElem_cons_succ, List.getElem_cons_zero]
            refine wpAnyH_ready (rs := [4]) (by kernel_rfl) (by simp) ?_
            refine AllReadyH.cons (o := _) rfl (fun K hK => ?_) AllReadyH.nil
            try simp only [List.getElem_toArray, List.getElem_cons_succ, List.getElem_cons_zero]
            go_simp
            go_at_call 42
            with_reducible refine (HSA.out _ (by first | exact (bq_al (bq_al (bq_al HR4.out))) | exact (bq_dr (bq_al (bq_al (bq_al HR4.out))))) _ 1 1 (by first | exact rdl1k (by simp only [World.size_alloc]) (bq_al (Below.refl _ _)) (HR6.out _ (bq_al HR4.out)) HN9.out.1 | exact rdl1k (by simp only [World.size_alloc]) (bq_dr (bq_al (Below.refl _ _))) (HR6.out _ (bq_al HR4.out)) HN9.out.1)).mono ?_
            rintro e w11 ⟨g11, k11, rfl, hs11, hg11, hk11, hb11⟩
            (try replace hb11 := und1 hb11)
            have HS11 := Lib.hid hs11
            have HC11 := Lib.hid hb11
            have HK11 := Lib.hid hk11
            clear hs11 hb11 hg11 hk11
            refine hK.out _ _ ?_ (fun hHeld => ?_)
            · exact HSX.out _ (bq_call HC11.out (bq_al (bq_al (bq_al HR4.out))))
            clear hK K
            try simp only [Act.put, List.setIfInBounds_toArray, List.set_cons_zero, List.set_cons_succ, List.getElem_toArray, List.getElem_cons_succ, List.getElem_cons_zero]
            refine wpAnyH_ready (rs := [8]) (by kernel_rfl) (by simp) ?_
            refine AllReadyH.cons (o := _) rfl (fun K hK => ?_) AllReadyH.nil
            try simp only [List.getElem_toArray, List.getElem_cons_succ, List.getElem_cons_zero]
            go_simp
            go_at_call 42
            with_reducible refine (HSA.out _ (by exact (bq_call HC11.out (bq_al (bq_al (bq_al HR4.out))))) _ 1 1 (by exact rdl1k (by simp only [World.size_alloc]) (bq_call HC11.out (bq_al (bq_al (Below.refl _ _)))) (HR6.out _ HR4.out) HN9.out.1)).mono ?_
            rintro e w12 ⟨g12, k12, rfl, hs12, hg12, hk12, hb12⟩
            have HS12 := Lib.hid hs12
            have HC12 := Lib.hid hb12
            have HK12 := Lib.hid hk12
            clear hs12 hb12 hg12 hk12
            refine hK.out _ _ ?_ (fun hHeld => ?_)
            · exact HSX.out _ (bq_call HC12.out (bq_call HC11.out (bq_al (bq_al (bq_al HR4.out)))))
            clear hK K
            try simp only [Act.put, List.setIfInBounds_toArray, List.set_cons_zero, List.set_cons_succ, List.getElem_toArray, List.getElem_cons_succ, List.getElem_cons_zero]
            refine wpAnyH_ready (rs := [14]) (by kernel_rfl) (by simp) ?_
            refine AllReadyH.cons (o := _) rfl (fun K hK => ?_) AllReadyH.nil
            try simp only [List.getElem_toArray, List.getElem_cons_succ, List.getElem_cons_zero]
            go_simp
            go_at_call 42
            with_reducible refine (HSC.out _ (by exact (bq_call HC12.out (bq_call HC11.out (bq_al (bq_al (bq_al HR4.out)))))) _ 1 1 (by exact rdl1k (by simp only [World.size_alloc]) (bq_call HC12.out (bq_call HC11.out (Below.refl _ _))) (HR7.out _ (bq_al (bq_al HR4.out))) HN9.out.2)).mono ?_
            rintro e w13 ⟨g13, k13, rfl, hs13, hg13, hk13, hb13⟩
            have HS13 := Lib.hid hs13
            have HC13 := Lib.hid hb13
            have HK13 := Lib.hid hk13
            clear hs13 hb13 hg13 hk13
            refine hK.out _ _ ?_ (fun hHeld => ?_)
            · exact HSX.out _ (bq_call HC13.out (bq_call HC12.out (bq_call HC11.out (bq_al (bq_al (bq_al HR4.out))))))
            clear hK K
            try simp only [Act.put, List.setIfInBounds_toArray, List.set_cons_zero, List.set_cons_succ, List.getElem_toArray, List.getElem_cons_succ, List.getElem_cons_zero]
            have hbl := bld_cl s t A n c g11 g12 g13
            refine wpAnyH_take (i := 15) (oi := _) (v := .agg #[.int .i64 s, .int .i64 t, .slice A n c, .pointer (some ⟨g11, 0, none⟩), .pointer (some ⟨g12, 0, none⟩), .pointer (some ⟨g13, 0, none⟩)]) rfl (by kernel_rfl) (by kernel_rfl) (by kernel_rfl) (fun _ _ _ h => h) (Or.inl ⟨by rfl, ?_⟩) (by assumption) ?_
            · intro wS hSw
              clear hSw
              simp only [List.getElem_toArray, List.getElem_cons_succ, List.getElem_cons_zero]
              unfold execOp
              simp only [List.map_toArray, List.map_cons, List.map_nil, Act.eval]
              exact bind_val (hbl wS)
            clear hbl
            try simp only [Act.put, List.setIfInBounds_toArray, List.set_cons_zero, List.set_cons_succ, List.getElem_toArray, List.getElem_cons_succ, List.getElem_cons_zero]
            refine wpAnyH_ready (rs := [16]) (by kernel_rfl) (by simp) ?_
            refine AllReadyH.cons (o := _) rfl (fun K hK => ?_) AllReadyH.nil
            try simp only [List.getElem_toArray, List.getElem_cons_succ, List.getElem_cons_zero]
            go_simp
            refine hK.out _ _ ?_ (fun hHeld => ?_)
            · exact HSX.out _ (bq_al (bq_call HC13.out (bq_call HC12.out (bq_call HC11.out (bq_al (bq_al (bq_al HR4.out)))))))
            clear hK K
            try simp only [Act.put, List.setIfInBounds_toArray, List.set_cons_zero, List.set_cons_succ, List.getElem_toArray, List.getElem_cons_succ, List.getElem_cons_zero]
            refine wpAnyH_take (i := 17) (oi := _) (v := ?_) rfl (by kernel_rfl) (by kernel_rfl) (by kernel_rfl) (fun _ _ _ h => h) (Or.inl ⟨by rfl, ?_⟩) (by assumption) ?_
            rotate_left
            · intro wS hSw
              (try dsimp only at hSw)
              simp only [List.getElem_toArray, List.getElem_cons_succ, List.getElem_cons_zero]
              first | (go_simp; done) | (go_simp; with_reducible rfl)
            try simp only [Act.put, List.setIfInBounds_toArray, List.set_cons_zero, List.set_cons_succ, List.getElem_toArray, List.getElem_cons_succ, List.getElem_cons_zero]
            refine wpAnyH_done (by kernel_rfl) ?_ _
            as_aux_lemma =>
            clear e1 e2
            go_wp2_with fail
            go_meet
            refine ⟨w13.heap.size, g11, k11, g12, k12, g13, k13, rfl, ⟨[List.replicate N 0], [List.replicate N 0], [List.replicate M 0], ⟨box_new _ _ _, HS11.out.below (bq_al (bq_call HC13.out (bq_call HC12.out (Below.refl _ _)))), HS12.out.below (bq_al (bq_call HC13.out (Below.refl _ _))), (HEM.out _ _ _ _ HS13.out).below (bq_al (Below.refl _ _)), ne_lt HS11.out.own.lt (Below.refl _ _) HK12.out, ne_lt HS11.out.own.lt (bq_call HC12.out (Below.refl _ _)) HK13.out, ne_lt HS12.out.own.lt (Below.refl _ _) HK13.out⟩, ⟨st0_sort N, st0_sort N, HE0.out⟩, HE1x.out⟩, ⟨(by first | exact le_lt (bq_al (bq_al (bq_al HR4.out))) HK11.out | exact le_lt (bq_dr (bq_al (bq_al (bq_al HR4.out)))) HK11.out), le_lt (bq_call HC11.out (bq_al (bq_al (bq_al HR4.out)))) HK12.out, le_lt (bq_call HC12.out (bq_call HC11.out (bq_al (bq_al (bq_al HR4.out))))) HK13.out⟩, (bq_al (bq_call HC13.out (bq_call HC12.out (bq_call HC11.out (bq_al (bq_al (bq_al HR4.out)))))))⟩
        · as_aux_lemma =>
          try simp only [List.getElem_toArray, List.getElem_cons_succ, List.getElem_cons_zero]
          go_simp
          refine hK.out _ _ ?_ (fun hHeld => ?_)
          · first | exact HSX.out _ (bq_al (bq_al HR4.out)) | exact HSX.out _ (bq_dr (bq_al (bq_al HR4.out)))
          clear hK K
          try simp only [Act.put, List.setIfInBounds_toArray, List.set_cons_zero, List.set_cons_succ, List.getElem_toArray, List.getElem_cons_succ, List.getElem_cons_zero]
          refine wpAnyH_ready (rs := [3]) (by kernel_rfl) (by simp) ?_
          refine AllReadyH.cons (o := _) rfl (fun K hK => ?_) AllReadyH.nil
          try simp only [List.getElem_toArray, List.getElem_cons_succ, List.getElem_cons_zero]
          go_simp
          refine hK.out _ _ ?_ (fun hHeld => ?_)
          · first | exact HSX.out _ (bq_al (bq_al (bq_al HR4.out))) | exact HSX.out _ (bq_dr (bq_al (bq_al (bq_al HR4.out))))
          clear hK K
          try simp only [Act.put, List.setIfInBounds_toArray, List.set_cons_zero, List.set_cons_succ, List.getElem_toArray, List.getElem_cons_succ, List.getElem_cons_zero]
          refine wpAnyH_ready (rs := [4]) (by kernel_rfl) (by simp) ?_
          refine AllReadyH.cons (o := _) rfl (fun K hK => ?_) AllReadyH.nil
          try simp only [List.getElem_toArray, List.getElem_cons_succ, List.getElem_cons_zero]
          go_simp
          go_at_call 42
          with_reducible refine (HSA.out _ (by first | exact (bq_al (bq_al (bq_al HR4.out))) | exact (bq_dr (bq_al (bq_al (bq_al HR4.out))))) _ 1 1 (by first | exact rdl1k (by simp only [World.size_alloc]) (Below.refl _ _) (HR6.out _ (bq_al (bq_al HR4.out))) HN9.out.1 | exact rdl1k (by simp only [World.size_alloc]) (bq_dr (Below.refl _ _)) (HR6.out _ (bq_al (bq_al HR4.out))) HN9.out.1)).mono ?_
          rintro e w11 ⟨g11, k11, rfl, hs11, hg11, hk11, hb11⟩
          (try replace hb11 := und1 hb11)
          have HS11 := Lib.hid hs11
          have HC11 := Lib.hid hb11
          have HK11 := Lib.hid hk11
          clear hs11 hb11 hg11 hk11
          refine hK.out _ _ ?_ (fun hHeld => ?_)
          · exact HSX.out _ (bq_call HC11.out (bq_al (bq_al (bq_al HR4.out))))
          clear hK K
          try simp only [Act.put, List.setIfInBounds_toArray, List.set_cons_zero, List.set_cons_succ, List.getElem_toArray, List.getElem_cons_succ, List.getElem_cons_zero]
          refine wpAnyH_ready (rs := [8]) (by kernel_rfl) (by simp) ?_
          refine AllReadyH.cons (o := _) rfl (fun K hK => ?_) AllReadyH.nil
          try simp only [List.getElem_toArray, List.getElem_cons_succ, List.getElem_cons_zero]
          go_simp
          go_at_call 42
          with_reducible refine (HSA.out _ (by exact (bq_call HC11.out (bq_al (bq_al (bq_al HR4.out))))) _ 1 1 (by exact rdl1k (by simp only [World.size_alloc]) (bq_call HC11.out (bq_al (bq_al (Below.refl _ _)))) (HR6.out _ HR4.out) HN9.out.1)).mono ?_
          rintro e w12 ⟨g12, k12, rfl, hs12, hg12, hk12, hb12⟩
          have HS12 := Lib.hid hs12
          have HC12 := Lib.hid hb12
          have HK12 := Lib.hid hk12
          clear hs12 hb12 hg12 hk12
          refine hK.out _ _ ?_ (fun hHeld => ?_)
          · exact HSX.out _ (bq_call HC12.out (bq_call HC11.out (bq_al (bq_al (bq_al HR4.out)))))
          clear hK K
          try simp only [Act.put, List.setIfInBounds_toArray, List.set_cons_zero, List.set_cons_succ, List.getElem_toArray, List.getElem_cons_succ, List.getElem_cons_zero]
          refine wpAnyH_ready (rs := [14]) (by kernel_rfl) (by simp) ?_
          refine AllReadyH.cons (o := _) rfl (fun K hK => ?_) AllReadyH.nil
          try simp only [List.getElem_toArray, List.getElem_cons_succ, List.getElem_cons_zero]
          go_simp
          go_at_call 42
          with_reducible refine (HSC.out _ (by exact (bq_call HC12.out (bq_call HC11.out (bq_al (bq_al (bq_al HR4.out)))))) _ 1 1 (by exact rdl1k (by simp only [World.size_alloc]) (bq_call HC12.out (bq_call HC11.out (bq_al (Below.refl _ _)))) (HR7.out _ (bq_al HR4.out)) HN9.out.2)).mono ?_
          rintro e w13 ⟨g13, k13, rfl, hs13, hg13, hk13, hb13⟩
          have HS13 := Lib.hid hs13
          have HC13 := Lib.hid hb13
          have HK13 := Lib.hid hk13
          clear hs13 hb13 hg13 hk13
          refine hK.out _ _ ?_ (fun hHeld => ?_)
          · exact HSX.out _ (bq_call HC13.out (bq_call HC12.out (bq_call HC11.out (bq_al (bq_al (bq_al HR4.out))))))
          clear hK K
          try simp only [Act.put, List.setIfInBounds_toArray, List.set_cons_zero, List.set_cons_succ, List.getElem_toArray, List.getElem_cons_succ, List.getElem_cons_zero]
          have hbl := bld_cl s t A n c g11 g12 g13
          refine wpAnyH_take (i := 15) (oi := _) (v := .agg #[.int .i64 s, .int .i64 t, .slice A n c, .pointer (some ⟨g11, 0, none⟩), .pointer (some ⟨g12, 0, none⟩), .pointer (some ⟨g13, 0, none⟩)]) rfl (by kernel_rfl) (by kernel_rfl) (by kernel_rfl) (fun _ _ _ h => h) (Or.inl ⟨by rfl, ?_⟩) (by assumption) ?_
          · intro wS hSw
            clear hSw
            simp only [List.getElem_toArray, List.getElem_cons_succ, List.getElem_cons_zero]
            unfold execOp
            simp only [List.map_toArray, List.map_cons, List.map_nil, Act.eval]
            exact bind_val (hbl wS)
          clear hbl
          try simp only [Act.put, List.setIfInBounds_toArray, List.set_cons_zero, List.set_cons_succ, List.getElem_toArray, List.getElem_cons_succ, List.getElem_cons_zero]
          refine wpAnyH_ready (rs := [16]) (by kernel_rfl) (by simp) ?_
          refine AllReadyH.cons (o := _) rfl (fun K hK => ?_) AllReadyH.nil
          try simp only [List.getElem_toArray, List.getElem_cons_succ, List.getElem_cons_zero]
          go_simp
          refine hK.out _ _ ?_ (fun hHeld => ?_)
          · exact HSX.out _ (bq_al (bq_call HC13.out (bq_call HC12.out (bq_call HC11.out (bq_al (bq_al (bq_al HR4.out)))))))
          clear hK K
          try simp only [Act.put, List.setIfInBounds_toArray, List.set_cons_zero, List.set_cons_succ, List.getElem_toArray, List.getElem_cons_succ, List.getElem_cons_zero]
          refine wpAnyH_take (i := 17) (oi := _) (v := ?_) rfl (by kernel_rfl) (by kernel_rfl) (by kernel_rfl) (fun _ _ _ h => h) (Or.inl ⟨by rfl, ?_⟩) (by assumption) ?_
          rotate_left
          · intro wS hSw
            (try dsimp only at hSw)
            simp only [List.getElem_toArray, List.getElem_cons_succ, List.getElem_cons_zero]
            first | (go_simp; done) | (go_simp; with_reducible rfl)
          try simp only [Act.put, List.setIfInBounds_toArray, List.set_cons_zero, List.set_cons_succ, List.getElem_toArray, List.getElem_cons_succ, List.getElem_cons_zero]
          refine wpAnyH_done (by kernel_rfl) ?_ _
          as_aux_lemma =>
          clear e1 e2
          go_wp2_with fail
          go_meet
          refine ⟨w13.heap.size, g11, k11, g12, k12, g13, k13, rfl, ⟨[List.replicate N 0], [List.replicate N 0], [List.replicate M 0], ⟨box_new _ _ _, HS11.out.below (bq_al (bq_call HC13.out (bq_call HC12.out (Below.refl _ _)))), HS12.out.below (bq_al (bq_call HC13.out (Below.refl _ _))), (HEM.out _ _ _ _ HS13.out).below (bq_al (Below.refl _ _)), ne_lt HS11.out.own.lt (Below.refl _ _) HK12.out, ne_lt HS11.out.own.lt (bq_call HC12.out (Below.refl _ _)) HK13.out, ne_lt HS12.out.own.lt (Below.refl _ _) HK13.out⟩, ⟨st0_sort N, st0_sort N, HE0.out⟩, HE1x.out⟩, ⟨(by first | exact le_lt (bq_al (bq_al (bq_al HR4.out))) HK11.out | exact le_lt (bq_dr (bq_al (bq_al (bq_al HR4.out)))) HK11.out), le_lt (bq_call HC11.out (bq_al (bq_al (bq_al HR4.out)))) HK12.out, le_lt (bq_call HC12.out (bq_call HC11.out (bq_al (bq_al (bq_al HR4.out))))) HK13.out⟩, (bq_al (bq_call HC13.out (bq_call HC12.out (bq_call HC11.out (bq_al (bq_al (bq_al HR4.out)))))))⟩
      · as_aux_lemma =>
        try simp only [List.getElem_toArray, List.getElem_cons_succ, List.getElem_cons_zero]
        go_simp
        refine hK.out _ _ ?_ (fun hHeld => ?_)
        · first | exact HSX.out _ (bq_al HR4.out) | exact HSX.out _ (bq_dr (bq_al HR4.out))
        clear hK K
        try simp only [Act.put, List.setIfInBounds_toArray, List.set_cons_zero, List.set_cons_succ, List.getElem_toArray, List.getElem_cons_succ, List.getElem_cons_zero]
        refine wpAnyH_ready (rs := [3, 7]) (by kernel_rfl) (by simp) ?_
        refine AllReadyH.cons (o := _) rfl (fun K hK => ?_) (AllReadyH.cons (o := _) rfl (fun K hK => ?_) AllReadyH.nil)
        · as_aux_lemma =>
          try simp only [List.getElem_toArray, List.getElem_cons_succ, List.getElem_cons_zero]
          go_simp
          refine hK.out _ _ ?_ (fun hHeld => ?_)
          · first | exact HSX.out _ (bq_al (bq_al HR4.out)) | exact HSX.out _ (bq_dr (bq_al (bq_al HR4.out)))
          clear hK K
          try simp only [Act.put, List.setIfInBounds_toArray, List.set_cons_zero, List.set_cons_succ, List.getElem_toArray, List.getElem_cons_succ, List.getElem_cons_zero]
          refine wpAnyH_ready (rs := [4, 7]) (by kernel_rfl) (by simp) ?_
          refine AllReadyH.cons (o := _) rfl (fun K hK => ?_) (AllReadyH.cons (o := _) rfl (fun K hK => ?_) AllReadyH.nil)
          · as_aux_lemma =>
            try simp only [List.getElem_toArray, List.getElem_cons_succ, List.getElem_cons_zero]
            go_simp
            go_at_call 42
            with_reducible refine (HSA.out _ (by first | exact (bq_al (bq_al HR4.out)) | exact (bq_dr (bq_al (bq_al HR4.out)))) _ 1 1 (by first | exact rdl1k (by simp only [World.size_alloc]) (Below.refl _ _) (HR6.out _ (bq_al HR4.out)) HN9.out.1 | exact rdl1k (by simp only [World.size_alloc]) (bq_dr (Below.refl _ _)) (HR6.out _ (bq_al HR4.out)) HN9.out.1)).mono ?_
            rintro e w11 ⟨g11, k11, rfl, hs11, hg11, hk11, hb11⟩
            (try replace hb11 := und1 hb11)
            have HS11 := Lib.hid hs11
            have HC11 := Lib.hid hb11
            have HK11 := Lib.hid hk11
            clear hs11 hb11 hg11 hk11
            refine hK.out _ _ ?_ (fun hHeld => ?_)
            · exact HSX.out _ (bq_call HC11.out (bq_al (bq_al HR4.out)))
            clear hK K
            try simp only [Act.put, List.setIfInBounds_toArray, List.set_cons_zero, List.set_cons_succ, List.getElem_toArray, List.getElem_cons_succ, List.getElem_cons_zero]
            refine wpAnyH_ready (rs := [7]) (by kernel_rfl) (by simp) ?_
            refine AllReadyH.cons (o := _) rfl (fun K hK => ?_) AllReadyH.nil
            try simp only [List.getElem_toArray, List.getElem_cons_succ, List.getElem_cons_zero]
            go_simp
            refine hK.out _ _ ?_ (fun hHeld => ?_)
            · exact HSX.out _ (bq_al (bq_call HC11.out (bq_al (bq_al HR4.out))))
            clear hK K
            try simp only [Act.put, List.setIfInBounds_toArray, List.set_cons_zero, List.set_cons_succ, List.getElem_toArray, List.getElem_cons_succ, List.getElem_cons_zero]
            refine wpAnyH_ready (rs := [8]) (by kernel_rfl) (by simp) ?_
            refine AllReadyH.cons (o := _) rfl (fun K hK => ?_) AllReadyH.nil
            try simp only [List.getElem_toArray, List.getElem_cons_succ, List.getElem_cons_zero]
            go_simp
            go_at_call 42
            with_reducible refine (HSA.out _ (by exact (bq_al (bq_call HC11.out (bq_al (bq_al HR4.out))))) _ 1 1 (by exact rdl1k (by simp only [World.size_alloc]) (Below.refl _ _) (HR6.out _ (bq_call HC11.out (bq_al (bq_al HR4.out)))) HN9.out.1)).mono ?_
            rintro e w12 ⟨g12, k12, rfl, hs12, hg12, hk12, hb12⟩
            have HS12 := Lib.hid hs12
            have HC12 := Lib.hid hb12
            have HK12 := Lib.hid hk12
            clear hs12 hb12 hg12 hk12
            refine hK.out _ _ ?_ (fun hHeld => ?_)
            · exact HSX.out _ (bq_call HC12.out (bq_al (bq_call HC11.out (bq_al (bq_al HR4.out)))))
            clear hK K
            try simp only [Act.put, List.setIfInBounds_toArray, List.set_cons_zero, List.set_cons_succ, List.getElem_toArray, List.getElem_cons_succ, List.getElem_cons_zero]
            refine wpAnyH_ready (rs := [14]) (by kernel_rfl) (by simp) ?_
            refine AllReadyH.cons (o := _) rfl (fun K hK => ?_) AllReadyH.nil
            try simp only [List.getElem_toArray, List.getElem_cons_succ, List.getElem_cons_zero]
            go_simp
            go_at_call 42
            with_reducible refine (HSC.out _ (by exact (bq_call HC12.out (bq_al (bq_call HC11.out (bq_al (bq_al HR4.out)))))) _ 1 1 (by exact rdl1k (by simp only [World.size_alloc]) (bq_call HC12.out (bq_al (bq_call HC11.out (bq_al (Below.refl _ _))))) (HR7.out _ HR4.out) HN9.out.2)).mono ?_
            rintro e w13 ⟨g13, k13, rfl, hs13, hg13, hk13, hb13⟩
            have HS13 := Lib.hid hs13
            have HC13 := Lib.hid hb13
            have HK13 := Lib.hid hk13
            clear hs13 hb13 hg13 hk13
            refine hK.out _ _ ?_ (fun hHeld => ?_)
            · exact HSX.out _ (bq_call HC13.out (bq_call HC12.out (bq_al (bq_call HC11.out (bq_al (bq_al HR4.out))))))
            clear hK K
            try simp only [Act.put, List.setIfInBounds_toArray, List.set_cons_zero, List.set_cons_succ, List.getElem_toArray, List.getElem_cons_succ, List.getElem_cons_zero]
            have hbl := bld_cl s t A n c g11 g12 g13
            refine wpAnyH_take (i := 15) (oi := _) (v := .agg #[.int .i64 s, .int .i64 t, .slice A n c, .pointer (some ⟨g11, 0, none⟩), .pointer (some ⟨g12, 0, none⟩), .pointer (some ⟨g13, 0, none⟩)]) rfl (by kernel_rfl) (by kernel_rfl) (by kernel_rfl) (fun _ _ _ h => h) (Or.inl ⟨by rfl, ?_⟩) (by assumption) ?_
            · intro wS hSw
              clear hSw
              simp only [List.getElem_toArray, List.getElem_cons_succ, List.getElem_cons_zero]
              unfold execOp
              simp only [List.map_toArray, List.map_cons, List.map_nil, Act.eval]
              exact bind_val (hbl wS)
            clear hbl
            try simp only [Act.put, List.setIfInBounds_toArray, List.set_cons_zero, List.set_cons_succ, List.getElem_toArray, List.getElem_cons_succ, List.getElem_cons_zero]
            refine wpAnyH_ready (rs := [16]) (by kernel_rfl) (by simp) ?_
            refine AllReadyH.cons (o := _) rfl (fun K hK => ?_) AllReadyH.nil
            try simp only [List.getElem_toArray, List.getElem_cons_succ, List.getElem_cons_zero]
            go_simp
            refine hK.out _ _ ?_ (fun hHeld => ?_)
            · exact HSX.out _ (bq_al (bq_call HC13.out (bq_call HC12.out (bq_al (bq_call HC11.out (bq_al (bq_al HR4.out)))))))
            clear hK K
            try simp only [Act.put, List.setIfInBounds_toArray, List.set_cons_zero, List.set_cons_succ, List.getElem_toArray, List.getElem_cons_succ, List.getElem_cons_zero]
            refine wpAnyH_take (i := 17) (oi := _) (v := ?_) rfl (by kernel_rfl) (by kernel_rfl) (by kernel_rfl) (fun _ _ _ h => h) (Or.inl ⟨by rfl, ?_⟩) (by assumption) ?_
            rotate_left
            · intro wS hSw
              (try dsimp only at hSw)
              simp only [List.getElem_toArray, List.getElem_cons_succ, List.getElem_cons_zero]
              first | (go_simp; done) | (go_simp; with_reducible rfl)
            try simp only [Act.put, List.setIfInBounds_toArray, List.set_cons_zero, List.set_cons_succ, List.getElem_toArray, List.getElem_cons_succ, List.getElem_cons_zero]
            refine wpAnyH_done (by kernel_rfl) ?_ _
            as_aux_lemma =>
            clear e1 e2
            go_wp2_with fail
            go_meet
            refine ⟨w13.heap.size, g11, k11, g12, k12, g13, k13, rfl, ⟨[List.replicate N 0], [List.replicate N 0], [List.replicate M 0], ⟨box_new _ _ _, HS11.out.below (bq_al (bq_call HC13.out (bq_call HC12.out (bq_al (Below.refl _ _))))), HS12.out.below (bq_al (bq_call HC13.out (Below.refl _ _))), (HEM.out _ _ _ _ HS13.out).below (bq_al (Below.refl _ _)), ne_lt HS11.out.own.lt (bq_al (Below.refl _ _)) HK12.out, ne_lt HS11.out.own.lt (bq_call HC12.out (bq_al (Below.refl _ _))) HK13.out, ne_lt HS12.out.own.lt (Below.refl _ _) HK13.out⟩, ⟨st0_sort N, st0_sort N, HE0.out⟩, HE1x.out⟩, ⟨(by first | exact le_lt (bq_al (bq_al HR4.out)) HK11.out | exact le_lt (bq_dr (bq_al (bq_al HR4.out))) HK11.out), le_lt (bq_al (bq_call HC11.out (bq_al (bq_al HR4.out)))) HK12.out, le_lt (bq_call HC12.out (bq_al (bq_call HC11.out (bq_al (bq_al HR4.out))))) HK13.out⟩, (bq_al (bq_call HC13.out (bq_call HC12.out (bq_al (bq_call HC11.out (bq_al (bq_al HR4.out)))))))⟩
          · as_aux_lemma =>
            try simp only [List.getElem_toArray, List.getElem_cons_succ, List.getElem_cons_zero]
            go_simp
            refine hK.out _ _ ?_ (fun hHeld => ?_)
            · first | exact HSX.out _ (bq_al (bq_al (bq_al HR4.out))) | exact HSX.out _ (bq_dr (bq_al (bq_al (bq_al HR4.out))))
            clear hK K
            try simp only [Act.put, List.setIfInBounds_toArray, List.set_cons_zero, List.set_cons_succ, List.getElem_toArray, List.getElem_cons_succ, List.getElem_cons_zero]
            refine wpAnyH_ready (rs := [4]) (by kernel_rfl) (by simp) ?_
            refine AllReadyH.cons (o := _) rfl (fun K hK => ?_) AllReadyH.nil
            try simp only [List.getElem_toArray, List.getElem_cons_succ, List.getElem_cons_zero]
            go_simp
            go_at_call 42
            with_reducible refine (HSA.out _ (by first | exact (bq_al (bq_al (bq_al HR4.out))) | exact (bq_dr (bq_al (bq_al (bq_al HR4.out))))) _ 1 1 (by first | exact rdl1k (by simp only [World.size_alloc]) (bq_al (Below.refl _ _)) (HR6.out _ (bq_al HR4.out)) HN9.out.1 | exact rdl1k (by simp only [World.size_alloc]) (bq_dr (bq_al (Below.refl _ _))) (HR6.out _ (bq_al HR4.out)) HN9.out.1)).mono ?_
            rintro e w11 ⟨g11, k11, rfl, hs11, hg11, hk11, hb11⟩
            (try replace hb11 := und1 hb11)
            have HS11 := Lib.hid hs11
            have HC11 := Lib.hid hb11
            have HK11 := Lib.hid hk11
            clear hs11 hb11 hg11 hk11
            refine hK.out _ _ ?_ (fun hHeld => ?_)
            · exact HSX.out _ (bq_call HC11.out (bq_al (bq_al (bq_al HR4.out))))
            clear hK K
            try simp only [Act.put, List.setIfInBounds_toArray, List.set_cons_zero, List.set_cons_succ, List.getElem_toArray, List.getElem_cons_succ, List.getElem_cons_zero]
            refine wpAnyH_ready (rs := [8]) (by kernel_rfl) (by simp) ?_
            refine AllReadyH.cons (o := _) rfl (fun K hK => ?_) AllReadyH.nil
            try simp only [List.getElem_toArray, List.getElem_cons_succ, List.getElem_cons_zero]
            go_simp
            go_at_call 42
            with_reducible refine (HSA.out _ (by exact (bq_call HC11.out (bq_al (bq_al (bq_al HR4.out))))) _ 1 1 (by exact rdl1k (by simp only [World.size_alloc]) (bq_call HC11.out (Below.refl _ _)) (HR6.out _ (bq_al (bq_al HR4.out))) HN9.out.1)).mono ?_
            rintro e w12 ⟨g12, k12, rfl, hs12, hg12, hk12, hb12⟩
            have HS12 := Lib.hid hs12
            have HC12 := Lib.hid hb12
            have HK12 := Lib.hid hk12
            clear hs12 hb12 hg12 hk12
            refine hK.out _ _ ?_ (fun hHeld => ?_)
            · exact HSX.out _ (bq_call HC12.out (bq_call HC11.out (bq_al (bq_al (bq_al HR4.out)))))
            clear hK K
            try simp only [Act.put, List.setIfInBounds_toArray, List.set_cons_zero, List.set_cons_succ, List.getElem_toArray, List.getElem_cons_succ, List.getElem_cons_zero]
            refine wpAnyH_ready (rs := [14]) (by kernel_rfl) (by simp) ?_
            refine AllReadyH.cons (o := _) rfl (fun K hK => ?_) AllReadyH.nil
            try simp only [List.getElem_toArray, List.getElem_cons_succ, List.getElem_cons_zero]
            go_simp
            go_at_call 42
            with_reducible refine (HSC.out _ (by exact (bq_call HC12.out (bq_call HC11.out (bq_al (bq_al (bq_al HR4.out)))))) _ 1 1 (by exact rdl1k (by simp only [World.size_alloc]) (bq_call HC12.out (bq_call HC11.out (bq_al (bq_al (Below.refl _ _))))) (HR7.out _ HR4.out) HN9.out.2)).mono ?_
            rintro e w13 ⟨g13, k13, rfl, hs13, hg13, hk13, hb13⟩
            have HS13 := Lib.hid hs13
            have HC13 := Lib.hid hb13
            have HK13 := Lib.hid hk13
            clear hs13 hb13 hg13 hk13
            refine hK.out _ _ ?_ (fun hHeld => ?_)
            · exact HSX.out _ (bq_call HC13.out (bq_call HC12.out (bq_call HC11.out (bq_al (bq_al (bq_al HR4.out))))))
            clear hK K
            try simp only [Act.put, List.setIfInBounds_toArray, List.set_cons_zero, List.set_cons_succ, List.getElem_toArray, List.getElem_cons_succ, List.getElem_cons_zero]
            have hbl := bld_cl s t A n c g11 g12 g13
            refine wpAnyH_take (i := 15) (oi := _) (v := .agg #[.int .i64 s, .int .i64 t, .slice A n c, .pointer (some ⟨g11, 0, none⟩), .pointer (some ⟨g12, 0, none⟩), .pointer (some ⟨g13, 0, none⟩)]) rfl (by kernel_rfl) (by kernel_rfl) (by kernel_rfl) (fun _ _ _ h => h) (Or.inl ⟨by rfl, ?_⟩) (by assumption) ?_
            · intro wS hSw
              clear hSw
              simp only [List.getElem_toArray, List.getElem_cons_succ, List.getElem_cons_zero]
              unfold execOp
              simp only [List.map_toArray, List.map_cons, List.map_nil, Act.eval]
              exact bind_val (hbl wS)
            clear hbl
            try simp only [Act.put, List.setIfInBounds_toArray, List.set_cons_zero, List.set_cons_succ, List.getElem_toArray, List.getElem_cons_succ, List.getElem_cons_zero]
            refine wpAnyH_ready (rs := [16]) (by kernel_rfl) (by simp) ?_
            refine AllReadyH.cons (o := _) rfl (fun K hK => ?_) AllReadyH.nil
            try simp only [List.getElem_toArray, List.getElem_cons_succ, List.getElem_cons_zero]
            go_simp
            refine hK.out _ _ ?_ (fun hHeld => ?_)
            · exact HSX.out _ (bq_al (bq_call HC13.out (bq_call HC12.out (bq_call HC11.out (bq_al (bq_al (bq_al HR4.out)))))))
            clear hK K
            try simp only [Act.put, List.setIfInBounds_toArray, List.set_cons_zero, List.set_cons_succ, List.getElem_toArray, List.getElem_cons_succ, List.getElem_cons_zero]
            refine wpAnyH_take (i := 17) (oi := _) (v := ?_) rfl (by kernel_rfl) (by kernel_rfl) (by kernel_rfl) (fun _ _ _ h => h) (Or.inl ⟨by rfl, ?_⟩) (by assumption) ?_
            rotate_left
            · intro wS hSw
              (try dsimp only at hSw)
              simp only [List.getElem_toArray, List.getElem_cons_succ, List.getElem_cons_zero]
              first | (go_simp; done) | (go_simp; with_reducible rfl)
            try simp only [Act.put, List.setIfInBounds_toArray, List.set_cons_zero, List.set_cons_succ, List.getElem_toArray, List.getElem_cons_succ, List.getElem_cons_zero]
            refine wpAnyH_done (by kernel_rfl) ?_ _
            as_aux_lemma =>
            clear e1 e2
            go_wp2_with fail
            go_meet
            refine ⟨w13.heap.size, g11, k11, g12, k12, g13, k13, rfl, ⟨[List.replicate N 0], [List.replicate N 0], [List.replicate M 0], ⟨box_new _ _ _, HS11.out.below (bq_al (bq_call HC13.out (bq_call HC12.out (Below.refl _ _)))), HS12.out.below (bq_al (bq_call HC13.out (Below.refl _ _))), (HEM.out _ _ _ _ HS13.out).below (bq_al (Below.refl _ _)), ne_lt HS11.out.own.lt (Below.refl _ _) HK12.out, ne_lt HS11.out.own.lt (bq_call HC12.out (Below.refl _ _)) HK13.out, ne_lt HS12.out.own.lt (Below.refl _ _) HK13.out⟩, ⟨st0_sort N, st0_sort N, HE0.out⟩, HE1x.out⟩, ⟨(by first | exact le_lt (bq_al (bq_al (bq_al HR4.out))) HK11.out | exact le_lt (bq_dr (bq_al (bq_al (bq_al HR4.out)))) HK11.out), le_lt (bq_call HC11.out (bq_al (bq_al (bq_al HR4.out)))) HK12.out, le_lt (bq_call HC12.out (bq_call HC11.out (bq_al (bq_al (bq_al HR4.out))))) HK13.out⟩, (bq_al (bq_call HC13.out (bq_call HC12.out (bq_call HC11.out (bq_al (bq_al (bq_al HR4.out)))))))⟩
        · as_aux_lemma =>
          try simp only [List.getElem_toArray, List.getElem_cons_succ, List.getElem_cons_zero]
          go_simp
          refine hK.out _ _ ?_ (fun hHeld => ?_)
          · first | exact HSX.out _ (bq_al (bq_al HR4.out)) | exact HSX.out _ (bq_dr (bq_al (bq_al HR4.out)))
          clear hK K
          try simp only [Act.put, List.setIfInBounds_toArray, List.set_cons_zero, List.set_cons_succ, List.getElem_toArray, List.getElem_cons_succ, List.getElem_cons_zero]
          refine wpAnyH_ready (rs := [3]) (by kernel_rfl) (by simp) ?_
          refine AllReadyH.cons (o := _) rfl (fun K hK => ?_) AllReadyH.nil
          try simp only [List.getElem_toArray, List.getElem_cons_succ, List.getElem_cons_zero]
          go_simp
          refine hK.out _ _ ?_ (fun hHeld => ?_)
          · first | exact HSX.out _ (bq_al (bq_al (bq_al HR4.out))) | exact HSX.out _ (bq_dr (bq_al (bq_al (bq_al HR4.out))))
          clear hK K
          try simp only [Act.put, List.setIfInBounds_toArray, List.set_cons_zero, List.set_cons_succ, List.getElem_toArray, List.getElem_cons_succ, List.getElem_cons_zero]
          refine wpAnyH_ready (rs := [4]) (by kernel_rfl) (by simp) ?_
          refine AllReadyH.cons (o := _) rfl (fun K hK => ?_) AllReadyH.nil
          try simp only [List.getElem_toArray, List.getElem_cons_succ, List.getElem_cons_zero]
          go_simp
          go_at_call 42
          with_reducible refine (HSA.out _ (by first | exact (bq_al (bq_al (bq_al HR4.out))) | exact (bq_dr (bq_al (bq_al (bq_al HR4.out))))) _ 1 1 (by first | exact rdl1k (by simp only [World.size_alloc]) (Below.refl _ _) (HR6.out _ (bq_al (bq_al HR4.out))) HN9.out.1 | exact rdl1k (by simp only [World.size_alloc]) (bq_dr (Below.refl _ _)) (HR6.out _ (bq_al (bq_al HR4.out))) HN9.out.1)).mono ?_
          rintro e w11 ⟨g11, k11, rfl, hs11, hg11, hk11, hb11⟩
          (try replace hb11 := und1 hb11)
          have HS11 := Lib.hid hs11
          have HC11 := Lib.hid hb11
          have HK11 := Lib.hid hk11
          clear hs11 hb11 hg11 hk11
          refine hK.out _ _ ?_ (fun hHeld => ?_)
          · exact HSX.out _ (bq_call HC11.out (bq_al (bq_al (bq_al HR4.out))))
          clear hK K
          try simp only [Act.put, List.setIfInBounds_toArray, List.set_cons_zero, List.set_cons_succ, List.getElem_toArray, List.getElem_cons_succ, List.getElem_cons_zero]
          refine wpAnyH_ready (rs := [8]) (by kernel_rfl) (by simp) ?_
          refine AllReadyH.cons (o := _) rfl (fun K hK => ?_) AllReadyH.nil
          try simp only [List.getElem_toArray, List.getElem_cons_succ, List.getElem_cons_zero]
          go_simp
          go_at_call 42
          with_reducible refine (HSA.out _ (by exact (bq_call HC11.out (bq_al (bq_al (bq_al HR4.out))))) _ 1 1 (by exact rdl1k (by simp only [World.size_alloc]) (bq_call HC11.out (bq_al (Below.refl _ _))) (HR6.out _ (bq_al HR4.out)) HN9.out.1)).mono ?_
          rintro e w12 ⟨g12, k12, rfl, hs12, hg12, hk12, hb12⟩
          have HS12 := Lib.hid hs12
          have HC12 := Lib.hid hb12
          have HK12 := Lib.hid hk12
          clear hs12 hb12 hg12 hk12
          refine hK.out _ _ ?_ (fun hHeld => ?_)
          · exact HSX.out _ (bq_call HC12.out (bq_call HC11.out (bq_al (bq_al (bq_al HR4.out)))))
          clear hK K
          try simp only [Act.put, List.setIfInBounds_toArray, List.set_cons_zero, List.set_cons_succ, List.getElem_toArray, List.getElem_cons_succ, List.getElem_cons_zero]
          refine wpAnyH_ready (rs := [14]) (by kernel_rfl) (by simp) ?_
          refine AllReadyH.cons (o := _) rfl (fun K hK => ?_) AllReadyH.nil
          try simp only [List.getElem_toArray, List.getElem_cons_succ, List.getElem_cons_zero]
          go_simp
          go_at_call 42
          with_reducible refine (HSC.out _ (by exact (bq_call HC12.out (bq_call HC11.out (bq_al (bq_al (bq_al HR4.out)))))) _ 1 1 (by exact rdl1k (by simp only [World.size_alloc]) (bq_call HC12.out (bq_call HC11.out (bq_al (bq_al (Below.refl _ _))))) (HR7.out _ HR4.out) HN9.out.2)).mono ?_
          rintro e w13 ⟨g13, k13, rfl, hs13, hg13, hk13, hb13⟩
          have HS13 := Lib.hid hs13
          have HC13 := Lib.hid hb13
          have HK13 := Lib.hid hk13
          clear hs13 hb13 hg13 hk13
          refine hK.out _ _ ?_ (fun hHeld => ?_)
          · exact HSX.out _ (bq_call HC13.out (bq_call HC12.out (bq_call HC11.out (bq_al (bq_al (bq_al HR4.out))))))
          clear hK K
          try simp only [Act.put, List.setIfInBounds_toArray, List.set_cons_zero, List.set_cons_succ, List.getElem_toArray, List.getElem_cons_succ, List.getElem_cons_zero]
          have hbl := bld_cl s t A n c g11 g12 g13
          refine wpAnyH_take (i := 15) (oi := _) (v := .agg #[.int .i64 s, .int .i64 t, .slice A n c, .pointer (some ⟨g11, 0, none⟩), .pointer (some ⟨g12, 0, none⟩), .pointer (some ⟨g13, 0, none⟩)]) rfl (by kernel_rfl) (by kernel_rfl) (by kernel_rfl) (fun _ _ _ h => h) (Or.inl ⟨by rfl, ?_⟩) (by assumption) ?_
          · intro wS hSw
            clear hSw
            simp only [List.getElem_toArray, List.getElem_cons_succ, List.getElem_cons_zero]
            unfold execOp
            simp only [List.map_toArray, List.map_cons, List.map_nil, Act.eval]
            exact bind_val (hbl wS)
          clear hbl
          try simp only [Act.put, List.setIfInBounds_toArray, List.set_cons_zero, List.set_cons_succ, List.getElem_toArray, List.getElem_cons_succ, List.getElem_cons_zero]
          refine wpAnyH_ready (rs := [16]) (by kernel_rfl) (by simp) ?_
          refine AllReadyH.cons (o := _) rfl (fun K hK => ?_) AllReadyH.nil
          try simp only [List.getElem_toArray, List.getElem_cons_succ, List.getElem_cons_zero]
          go_simp
          refine hK.out _ _ ?_ (fun hHeld => ?_)
          · exact HSX.out _ (bq_al (bq_call HC13.out (bq_call HC12.out (bq_call HC11.out (bq_al (bq_al (bq_al HR4.out)))))))
          clear hK K
          try simp only [Act.put, List.setIfInBounds_toArray, List.set_cons_zero, List.set_cons_succ, List.getElem_toArray, List.getElem_cons_succ, List.getElem_cons_zero]
          refine wpAnyH_take (i := 17) (oi := _) (v := ?_) rfl (by kernel_rfl) (by kernel_rfl) (by kernel_rfl) (fun _ _ _ h => h) (Or.inl ⟨by rfl, ?_⟩) (by assumption) ?_
          rotate_left
          · intro wS hSw
            (try dsimp only at hSw)
            simp only [List.getElem_toArray, List.getElem_cons_succ, List.getElem_cons_zero]
            first | (go_simp; done) | (go_simp; with_reducible rfl)
          try simp only [Act.put, List.setIfInBounds_toArray, List.set_cons_zero, List.set_cons_succ, List.getElem_toArray, List.getElem_cons_succ, List.getElem_cons_zero]
          refine wpAnyH_done (by kernel_rfl) ?_ _
          as_aux_lemma =>
          clear e1 e2
          go_wp2_with fail
          go_meet
          refine ⟨w13.heap.size, g11, k11, g12, k12, g13, k13, rfl, ⟨[List.replicate N 0], [List.replicate N 0], [List.replicate M 0], ⟨box_new _ _ _, HS11.out.below (bq_al (bq_call HC13.out (bq_call HC12.out (Below.refl _ _)))), HS12.out.below (bq_al (bq_call HC13.out (Below.refl _ _))), (HEM.out _ _ _ _ HS13.out).below (bq_al (Below.refl _ _)), ne_lt HS11.out.own.lt (Below.refl _ _) HK12.out, ne_lt HS11.out.own.lt (bq_call HC12.out (Below.refl _ _)) HK13.out, ne_lt HS12.out.own.lt (Below.refl _ _) HK13.out⟩, ⟨st0_sort N, st0_sort N, HE0.out⟩, HE1x.out⟩, ⟨(by first | exact le_lt (bq_al (bq_al (bq_al HR4.out))) HK11.out | exact le_lt (bq_dr (bq_al (bq_al (bq_al HR4.out)))) HK11.out), le_lt (bq_call HC11.out (bq_al (bq_al (bq_al HR4.out)))) HK12.out, le_lt (bq_call HC12.out (bq_call HC11.out (bq_al (bq_al (bq_al HR4.out))))) HK13.out⟩, (bq_al (bq_call HC13.out (bq_call HC12.out (bq_call HC11.out (bq_al (bq_al (bq_al HR4.out)))))))⟩
    case rest =>
      as_aux_lemma =>
      obtain ⟨gx, gl, ml, gr, mr, gc, mc, rfl, hset, hge, hb5⟩ := hcut
      obtain ⟨w5, rfl⟩ : ∃ v, v = wc := ⟨_, rfl⟩
      obtain ⟨p, hp⟩ : ∃ p, p = (⟨gx, s, t, A, n, c, gl, ml, gr, mr, gc, mc, N⟩ : ClP) := ⟨_, rfl⟩
      rw [← hp] at hset
      have HS5 := Lib.hid hset
      have HB5 : Hid (Below w.heap.size w w5) := Lib.hid (HB4.out.trans (hb5.mono HB4.out.size))
      have HRM5 := Lib.hid (HRM.out.below hb5 (Nat.le_refl _)); have HZ5 := Lib.hid (blk_bel HZ4.out hb5)
      have HNC := Lib.hid hset.noc
      have HGE : Hid (∀ k, p.F k → w.heap.size ≤ k) := Lib.hid (fun k hk => by
        have h1 := HB4.out.size
        subst hp
        rcases hk with hk | hk | hk <;> (simp only at hk; omega))
      have HCN : Hid (∀ (wx : World) (Sx : St3) (Bx : Nat), SetsIn wx p Sx Bx → InvF s t rs N Sx → Sx.size ≤ 1000000 → Calls Tryz.prog 95 #[.pointer (some ⟨gx, 0, none⟩)] wx (DrP wx (.int .i64 Sx.size))) := Lib.hid (fun wx Sx Bx h1 h2 h3 => by
        have h := counts_any (rs := rs) wx p Sx Bx h1 (by rw [hp]; exact h2) (by rw [hp]; exact HSS.out.2) (by rw [hp]; exact HN4.out.2) h3
        rw [hp] at h
        exact h)
      have HRD : Hid (∀ (wx : World) (Sx : St3) (Bx : Nat), SetsIn wx p Sx Bx → InvF s t rs N Sx → Rd wx A (n * 3) (ints (flatR rs)) → Sx.c.length ≤ 300 → Bx ≤ 900000 → Calls Tryz.prog 96 #[.pointer (some ⟨gx, 0, none⟩)] wx (RndQ wx p s rs Sx Bx)) := Lib.hid (fun wx Sx Bx h1 h2 h3 h4 h5 => by
        have h := round_any (rs := rs) wx p Sx Bx h1 (by rw [hp]; exact h2) (by rw [hp]; exact HOK.out) (by rw [hp]; exact h3) (by rw [hp]; exact HNN.out) (by rw [hp]; exact HN4.out) h4 h5
        rw [hp] at h ⊢
        exact h)
      have HSL0 : Hid (∀ (wx : World) (Sx : St3) (Bx : Nat), SetsIn wx p Sx Bx → InvF s t rs N Sx → Bx ≤ 1000000 → Calls Tryz.prog 46 #[.pointer (some ⟨gl, 0, none⟩)] wx (RetP wx Sx.l)) := Lib.hid (fun wx Sx Bx h1 h2 h3 => by
        have h := sorted_l (p := p) (rs := rs) h1 (by rw [hp]; exact h2) (by rw [hp]; exact HSS.out.2) (by rw [hp]; exact HN4.out.2) h3
        rw [hp] at h
        exact h)
      have HSR0 : Hid (∀ (wx : World) (Sx : St3) (Bx : Nat), SetsIn wx p Sx Bx → InvF s t rs N Sx → Bx ≤ 1000000 → Calls Tryz.prog 46 #[.pointer (some ⟨gr, 0, none⟩)] wx (RetP wx Sx.r)) := Lib.hid (fun wx Sx Bx h1 h2 h3 => by
        have h := sorted_r (p := p) (rs := rs) h1 (by rw [hp]; exact h2) (by rw [hp]; exact HSS.out.2) (by rw [hp]; exact HN4.out.2) h3
        rw [hp] at h
        exact h)
      have HSC0 : Hid (∀ (wx : World) (Sx : St3) (Bx : Nat), SetsIn wx p Sx Bx → InvF s t rs N Sx → Bx ≤ 1000000 → Calls Tryz.prog 46 #[.pointer (some ⟨gc, 0, none⟩)] wx (RetP wx Sx.c)) := Lib.hid (fun wx Sx Bx h1 h2 h3 => by
        have h := sorted_c (p := p) (rs := rs) h1 (by rw [hp]; exact h2) (by rw [hp]; exact HSS.out.2) (by rw [hp]; exact HN4.out.2) h3
        rw [hp] at h
        exact h)
      have HBX0 : Hid (∀ (wx : World) (Sx : St3) (Bx : Nat), SetsIn wx p Sx Bx → wx.cell? ⟨gx, 3, none⟩ = some (.pointer (some ⟨gl, 0, none⟩)) ∧ wx.cell? ⟨gx, 4, none⟩ = some (.pointer (some ⟨gr, 0, none⟩)) ∧ wx.cell? ⟨gx, 5, none⟩ = some (.pointer (some ⟨gc, 0, none⟩))) := Lib.hid (fun wx Sx Bx h1 => by
        have h := h1.box
        rw [hp] at h
        exact ⟨blk_cell h 3 rfl, blk_cell h 4 rfl, blk_cell h 5 rfl⟩)
      have HST0 : Hid (FdR s rs N (st0 N) (fdP s rs N (st0 N)) ∨ True) := Lib.hid (.inr trivial)
      clear hset hge hb5 e1 e2 hp HR4 HR6 HR7 HSA HSC HSX HGN HX4 HB04 HX0 HZ HB HR HM HE1 HE2 HRM HZ4 HN9
      go_wp2_with fail
      go_loopg [] (298 : Nat) (fun gk wr => ∃ (Sk : St3) (B : Nat), gk = 301 - Sk.size ∧ Hid (Sk.size ≤ 300 ∧ B ≤ 2101 * Sk.size) ∧ Hid (InvF s t rs N Sk) ∧ SetsIn wr p Sk B ∧ Hid (∀ res, FdR s rs N Sk res → FdR s rs N (st0 N) res) ∧ Ch p.F w5 wr)
      case atStart => exact ⟨st0 N, 1, rfl, Lib.hid (by rw [st0_size]; omega), HI0, HS5.out, Lib.hid (fun _ h => h), Ch.refl _ _⟩
      case round =>
        as_aux_lemma =>
        obtain ⟨Sk, B, hgk, HSZ, HIK, hsk, HRES, hch⟩ := hrel
        have HGK := Lib.hid hgk
        have HCH := Lib.hid hch
        have HCC : Hid (Sk.c.length ≤ 300) := Lib.hid (by have h := HSZ.out.1; unfold St3.size at h; omega)
        have HB9 : Hid (B ≤ 690000) := Lib.hid (by have := HSZ.out; omega)
        have HSZM : Hid (Sk.size ≤ 1000000) := Lib.hid (by have := HSZ.out; omega)
        clear hgk
        go_wp2_with fail
        refine (HCN.out wr Sk B hsk HIK.out HSZM.out).mono ?_
        rintro e w6 ⟨rfl, j, rfl⟩
        have HSK6 : Hid (SetsIn (wr.drewN j) p Sk B) := Lib.hid (hsk.below (below_drewN (Below.refl _ _)))
        have HC6 : Hid (Ch p.F w5 (wr.drewN j)) := Lib.hid (ch_drewN hch)
        obtain ⟨w6, hw6⟩ : ∃ w6, w6 = wr.drewN j := ⟨_, rfl⟩
        rw [← hw6] at HSK6 HC6
        rw [← hw6]
        clear hw6 hsk hch HCH
        have HR6 := Lib.hid (rd_noc HRM5.out HNC.out HC6.out)
        go_wp2_with fail
        refine (HRD.out w6 Sk B HSK6.out HIK.out HR6.out HCC.out (by have := HB9.out; omega)).mono ?_
        rintro e w7 hR
        rcases hR with ⟨h1, rfl, hc7⟩ | ⟨S', h1, rfl, hs7, hc7⟩
        · as_aux_lemma =>
          have HFD : Hid (fdP s rs N (st0 N) = (0, [], [], 3)) := Lib.hid (fdP_of (HRES.out _ (.stuck h1)))
          have HC7 : Hid (Ch p.F w5 w7) := Lib.hid (HC6.out.trans hc7)
          have HBW : Hid (Below w.heap.size w w7) := Lib.hid (below_ch HB5.out HC7.out HGE.out HB5.out.size)
          have hzb := blk_ch HZ5.out HC7.out (noc_blk HNC.out HZ5.out)
          have z0 := blk_cell hzb 0 rfl
          have z1 := blk_cell hzb 1 rfl
          have z2 := blk_cell hzb 2 rfl
          have f0 := blk_free hzb 0
          have f1 := blk_free hzb 1
          have f2 := blk_free hzb 2
          clear hzb h1 hc7
          go_wp2_with fail
          exact bodyPost_ret (v := .tuple #[prfV 0 none 0 0 none 0 0, .int .i64 3]) (by simp [results, Tryz.results55, go_sem, z0, z1, z2]) rfl (by rw [HFD.out]; exact pfp_err HBW.out (Nat.le_succ _))
        · as_aux_lemma =>
          have H1 := Lib.hid h1
          have HC7 : Hid (Ch p.F w5 w7) := Lib.hid (HC6.out.trans hc7)
          have HS7 := Lib.hid hs7
          have HI7 : Hid (InvF s t rs N S') := Lib.hid (roundF_inv HIK.out HIK.out.wc h1)
          have HSZ7 : Hid (Sk.size ≤ S'.size ∧ S'.size ≤ 2400) := Lib.hid (by have h := roundF_size HSS.out.2 HIK.out HIK.out.wc h1; have := HCC.out; have := HSZ.out; omega)
          have HBB7 : Hid (B + 7 * Sk.c.length ≤ 700000 ∧ B + 7 * Sk.c.length ≤ 2101 * (Sk.size + 1)) := Lib.hid (by have := HB9.out; have := HCC.out; have := HSZ.out; omega)
          have HSL : Hid (∀ wx : World, Below w7.heap.size w7 wx → Calls Tryz.prog 46 #[.pointer (some ⟨gl, 0, none⟩)] wx (RetP wx S'.l)) := Lib.hid (fun wx hbx => HSL0.out wx S' _ (HS7.out.below hbx) HI7.out (by have := HBB7.out; omega))
          have HSR : Hid (∀ wx : World, Below w7.heap.size w7 wx → Calls Tryz.prog 46 #[.pointer (some ⟨gr, 0, none⟩)] wx (RetP wx S'.r)) := Lib.hid (fun wx hbx => HSR0.out wx S' _ (HS7.out.below hbx) HI7.out (by have := HBB7.out; omega))
          have HSC2 : Hid (∀ wx : World, Below w7.heap.size w7 wx → Calls Tryz.prog 46 #[.pointer (some ⟨gc, 0, none⟩)] wx (RetP wx S'.c)) := Lib.hid (fun wx hbx => HSC0.out wx S' _ (HS7.out.below hbx) HI7.out (by have := HBB7.out; omega))
          have HSX7 : Hid (∀ wx : World, Below w7.heap.size w7 wx → wx.cell? ⟨gx, 3, none⟩ = some (.pointer (some ⟨gl, 0, none⟩)) ∧ wx.cell? ⟨gx, 4, none⟩ = some (.pointer (some ⟨gr, 0, none⟩)) ∧ wx.cell? ⟨gx, 5, none⟩ = some (.pointer (some ⟨gc, 0, none⟩))) := Lib.hid (fun wx hbx => HBX0.out wx S' _ (HS7.out.below hbx))
          have HR7 : Hid (Below w7.heap.size w7 w7) := Lib.hid (Below.refl _ _)
          have HRD7 : Hid (Below w7.heap.size w7 w7.drew) := Lib.hid (below_drewN (n := 1) (Below.refl _ _))
          clear h1 hc7 hs7
          go_upto_region 6 with fail
          go_cut [10] from 42 to 58 (fun s10 wx => ∃ g10 : Nat, s10 = .pointer (some ⟨g10, 0, none⟩) ∧ BxP w7 N S' g10 wx)
          case first =>
            as_aux_lemma =>
            clear HSL0 HSR0 HSC0 HBX0 HRD HCN HR6 HRM5 HZ5 HGE HST0 HS5 HNN HOK HI0
            (first | (go_region_held3 (fun w' => w'.cell? ⟨gx, 3, none⟩ = some (.pointer (some ⟨gl, 0, none⟩)) ∧ w'.cell? ⟨gx, 4, none⟩ = some (.pointer (some ⟨gr, 0, none⟩)) ∧ w'.cell? ⟨gx, 5, none⟩ = some (.pointer (some ⟨gc, 0, none⟩))) (first | with_reducible exact HSX7.out _ HR7.out | with_reducible exact HSX7.out _ HRD7.out | with_reducible exact HSX7.out _ (bq_al HR7.out) | with_reducible exact HSX7.out _ (bq_dr HR7.out) | with_reducible exact HSX7.out _ (bq_dr (bq_al HR7.out)) | with_reducible exact HSX7.out _ HR7.out | with_reducible exact HSX7.out _ (bq_al HB8.out) | with_reducible exact HSX7.out _ (bq_dr HB8.out) | with_reducible exact HSX7.out _ (bq_dr (bq_al HB8.out)) | with_reducible exact HSX7.out _ HB8.out | with_reducible exact HSX7.out _ (bq_al HB9.out) | with_reducible exact HSX7.out _ (bq_dr HB9.out) | with_reducible exact HSX7.out _ (bq_dr (bq_al HB9.out)) | with_reducible exact HSX7.out _ HB9.out | with_reducible exact HSX7.out _ (bq_al HB10.out) | with_reducible exact HSX7.out _ (bq_dr HB10.out) | with_reducible exact HSX7.out _ (bq_dr (bq_al HB10.out)) | with_reducible exact HSX7.out _ HB10.out | with_reducible exact HSX7.out _ (bq_set (bq_set (bq_set (bq_set HB10.out (by first | with_reducible exact Nat.le_refl _ | with_reducible exact HB8.out.size | with_reducible exact HB9.out.size)) (by first | with_reducible exact Nat.le_refl _ | with_reducible exact HB8.out.size | with_reducible exact HB9.out.size)) (by first | with_reducible exact Nat.le_refl _ | with_reducible exact HB8.out.size | with_reducible exact HB9.out.size)) (by first | with_reducible exact Nat.le_refl _ | with_reducible exact HB8.out.size | with_reducible exact HB9.out.size))) (first
              | (have hq := HO9.out
                 clear hq
                 go_simp
                 go_at_call 46
                 with_reducible refine (HSC2.out _ (by first | exact HB9.out | exact bq_al HB9.out | exact bq_dr HB9.out | exact bq_dr (bq_al HB9.out))).mono ?_
                 rintro e w10 ⟨A10, n10, c10, F10, rfl, ho10, hf10, hb10⟩
                 (try replace hb10 := und1 hb10)
                 have HO10 := Lib.hid ho10
                 have HF10 := Lib.hid hf10
                 have HZ10 := Lib.hid hb10.size
                 have HC10 : Hid (Below w9.heap.size w9 w10) := Lib.hid (by first | exact hb10 | exact bq_call hb10 (bq_al (Below.refl _ _)))
                 have HB10 : Hid (Below w7.heap.size w7 w10) := Lib.hid (bq_call HC10.out HB9.out)
                 (first | (have hxz10 := blk_bel (box_new w9 #[.int .i64 0, .slice none 0 0, .slice none 0 0, .slice none 0 0] 75) hb10) | (have hxz10 := blk_bel hxz9 hb10) | skip)
                 (try (have y0 := blk_cell hxz10 0 rfl; have y1 := blk_cell hxz10 1 rfl; have y2 := blk_cell hxz10 2 rfl; have y3 := blk_cell hxz10 3 rfl; have f0 := blk_free hxz10 0; have f1 := blk_free hxz10 1; have f2 := blk_free hxz10 2; have f3 := blk_free hxz10 3))
                 clear ho10 hf10 hb10)
              | (have hq := HO8.out
                 clear hq
                 go_simp
                 go_at_call 46
                 with_reducible refine (HSR.out _ (by first | exact HB8.out | exact bq_al HB8.out | exact bq_dr HB8.out | exact bq_dr (bq_al HB8.out))).mono ?_
                 rintro e w9 ⟨A9, n9, c9, F9, rfl, ho9, hf9, hb9⟩
                 (try replace hb9 := und1 hb9)
                 have HO9 := Lib.hid ho9
                 have HF9 := Lib.hid hf9
                 have HZ9 := Lib.hid hb9.size
                 have HC9 : Hid (Below w8.heap.size w8 w9) := Lib.hid (by first | exact hb9 | exact bq_call hb9 (bq_al (Below.refl _ _)))
                 have HB9 : Hid (Below w7.heap.size w7 w9) := Lib.hid (bq_call HC9.out HB8.out)
                 (first | (have hxz9 := blk_bel (box_new w8 #[.int .i64 0, .slice none 0 0, .slice none 0 0, .slice none 0 0] 75) hb9) | (have hxz9 := blk_bel hxz8 hb9) | skip)
                 clear ho9 hf9 hb9)
              | (go_simp
                 go_at_call 46
                 with_reducible refine (HSL.out _ (by first | exact HR7.out | exact bq_al HR7.out | exact bq_dr HR7.out | exact bq_dr (bq_al HR7.out))).mono ?_
                 rintro e w8 ⟨A8, n8, c8, F8, rfl, ho8, hf8, hb8⟩
                 (try replace hb8 := und1 hb8)
                 have HO8 := Lib.hid ho8
                 have HF8 := Lib.hid hf8
                 have HZ8 := Lib.hid hb8.size
                 have HC8 : Hid (Below w7.heap.size w7 w8) := Lib.hid (by first | exact hb8 | exact bq_call hb8 (bq_al (Below.refl _ _)))
                 have HB8 : Hid (Below w7.heap.size w7 w8) := Lib.hid (HC8.out)
                 (try (have hxz8 := blk_bel (box_new w7 #[.int .i64 0, .slice none 0 0, .slice none 0 0, .slice none 0 0] 75) hb8))
                 clear ho8 hf8 hb8))) | fail)
            all_goals
              as_aux_lemma =>
              go_wp2_with fail
              go_meet
              refine ⟨_, rfl, ?_⟩
              first
                | (with_reducible refine bxp_new (F1 := F8) (F2 := F9) (F3 := F10) ?_ ?_ ?_ ?_
                   exact HO8.out.below (bq_call HC10.out HC9.out)
                   exact HO9.out.below HC10.out
                   exact HO10.out
                   exact HB10.out)
                | (with_reducible refine bxp_drw (bxp_new (F1 := F8) (F2 := F9) (F3 := F10) ?_ ?_ ?_ ?_)
                   exact HO8.out.below (bq_call HC10.out HC9.out)
                   exact HO9.out.below HC10.out
                   exact HO10.out
                   exact HB10.out)
                | (with_reducible refine bxp_set (F1 := F8) (F2 := F9) (F3 := F10) ?_ ?_ ?_ ?_ ?_ hxz10 ?_ ?_ ?_
                   exact HO8.out.below (bq_call HC10.out HC9.out)
                   exact HO9.out.below HC10.out
                   exact HO10.out
                   exact HB10.out
                   first | with_reducible exact Nat.le_refl _ | with_reducible exact HB8.out.size | with_reducible exact HB9.out.size
                   exact (fun h => by have a := HF8.out _ h; have b8 := HZ8.out; have b9 := HZ9.out; have b10 := HZ10.out; (simp at a b8 b9 b10) <;> omega)
                   exact (fun h => by have a := HF9.out _ h; have b8 := HZ8.out; have b9 := HZ9.out; have b10 := HZ10.out; (simp at a b8 b9 b10) <;> omega)
                   exact (fun h => by have a := HF10.out _ h; have b8 := HZ8.out; have b9 := HZ9.out; have b10 := HZ10.out; (simp at a b8 b9 b10) <;> omega))
          case rest =>
            as_aux_lemma =>
            obtain ⟨g10, rfl, A1, n1, c1, A2, n2, c2, A3, n3, c3, us3, hx10, hl1, hl2, hl3, hb8⟩ := hcut
            obtain ⟨w8, rfl⟩ : ∃ v, v = wc := ⟨_, rfl⟩
            have HS8 := Lib.hid (HS7.out.below hb8)
            have HC8 : Hid (Ch p.F w5 w8) := Lib.hid (HC7.out.trans (ch_below hb8))
            have HB8 : Hid (Below w.heap.size w w8) := Lib.hid (below_ch HB5.out HC8.out HGE.out HB5.out.size)
            have HLN : Hid (n1 ≤ 2400 ∧ n2 ≤ 2400 ∧ n3 ≤ 2400) := Lib.hid (by have a := hl1.len; have b := hl2.len; have c := hl3.ownp.len; have d := HSZ7.out; unfold St3.size at d; omega)
            have HCK := checked_any w8 N A1 n1 c1 A2 n2 c2 A3 n3 c3 S'.l S'.r S'.c us3 hl1 (by have := HLN.out; omega) hl2 (by have := HLN.out; omega) hl3 (by have := HLN.out; omega) (fun xs hxs => by obtain ⟨st, y, rfl, _⟩ := HI7.out.wc xs hxs; simp)
            rw [prF_chR hl1.len hl2.len] at HCK
            replace HCK := Lib.hid HCK
            have x0 := blk_cell hx10 0 rfl
            have x1 := blk_cell hx10 1 rfl
            have x2 := blk_cell hx10 2 rfl
            have x3 := blk_cell hx10 3 rfl
            have HZ8 := Lib.hid (blk_ch HZ5.out HC8.out (noc_blk HNC.out HZ5.out))
            have HQ : Hid (w.heap.size + 1 < w8.heap.size) := Lib.hid (blk_lt HZ8.out)
            clear hx10 hl1 hl2 hl3 hb8 HSL HSR HSC2 HSX7 HR7 HRD7 HS7 HC7
            cases hok : okF N S' with
            | false =>
              as_aux_lemma =>
              have HFD : Hid (fdP s rs N (st0 N) = (0, [], [], 5)) := Lib.hid (fdP_of (HRES.out _ (.full H1.out hok)))
              have hck := HCK.out
              rw [prF_no hok] at hck
              replace HCK := Lib.hid hck
              clear hck hok
              go_wp2_with fail
              refine HCK.out.mono ?_
              rintro e w9 ⟨A9, n9, c9, A10, n10, c10, F9, rfl, ho9, hp9, hF9, hd9, hb9⟩
              have HP9 : Hid (PfP w8 (0, [], [], 5) (.returned (.tuple #[prfV 0 A9 n9 c9 A10 n10 c10, .int .i64 5])) w9) := Lib.hid ⟨A9, n9, c9, A10, n10, c10, F9, rfl, ho9, hp9, hF9, hd9, hb9⟩
              have hzb0 := blk_bel HZ8.out hb9
              have hzb := blk_alloc hzb0 (.cells #[.int .i64 0, .slice A9 n9 c9, .slice A10 n10 c10] 39)
              have z0 := blk_cell hzb 0 rfl
              have z1 := blk_cell hzb 1 rfl
              have z2 := blk_cell hzb 2 rfl
              have f0 := blk_free hzb 0
              have f1 := blk_free hzb 1
              have f2 := blk_free hzb 2
              clear hzb hzb0 ho9 hp9 hF9 hd9 hb9 x0 x1 x2 x3
              go_wp2_with fail
              exact bodyPost_ret (v := .tuple #[prfV 0 A9 n9 c9 A10 n10 c10, .int .i64 5]) (by simp [results, Tryz.results55, go_sem, z0, z1, z2]) rfl (by rw [HFD.out]; exact pfp_set (pfp_bel HP9.out (below_new _ _)) HB8.out (Nat.le_succ _) HQ.out)
            | true =>
              as_aux_lemma =>
              have HOKF := Lib.hid hok
              obtain ⟨NS, WS, hpr⟩ := prF_ok hok
              have HPR := Lib.hid hpr
              have hck := HCK.out
              rw [hpr] at hck
              replace HCK := Lib.hid hck
              have HZS : Hid (S'.size ≤ 300) := Lib.hid (okF_size hok)
              clear hck hok hpr
              have HCN8 := Lib.hid (fun (wx : World) (hbx : Below w8.heap.size w8 wx) => HCN.out wx S' _ (HS8.out.below hbx) HI7.out (by have := HZS.out; omega))
              by_cases hsz : S'.size = Sk.size
              · have HFD : Hid (fdP s rs N (st0 N) = (8, NS, WS, 0)) := Lib.hid (by rw [← HPR.out]; exact fdP_of (HRES.out _ (.stop H1.out HOKF.out hsz)))
                have hcmp : ((S'.size : Int) == (Sk.size : Int)) = true := by rw [hsz]; simp
                clear hsz
                as_aux_lemma =>
                go_wp2_with (first
                  | (go_at_call 97
                     refine HCK.out.mono ?_
                     rintro e w9 ⟨A9, n9, c9, A10, n10, c10, F9, rfl, ho9, hp9, hF9, hd9, hb9⟩
                     have HP9 : Hid (PfP w8 (8, NS, WS, 0) (.returned (.tuple #[prfV 8 A9 n9 c9 A10 n10 c10, .int .i64 0])) w9) := Lib.hid ⟨A9, n9, c9, A10, n10, c10, F9, rfl, ho9, hp9, hF9, hd9, hb9⟩
                     have HB9x := Lib.hid hb9
                     have y9 := box_new w9 #[.int .i64 8, .slice A9 n9 c9, .slice A10 n10 c10] 39
                     have HY9 := Lib.hid y9
                     clear ho9 hp9 hF9 hd9 hb9 x0 x1 x2 x3 y9)
                  | (go_at_call 95
                     with_reducible refine (HCN8.out _ (by first | exact bq_al HB9x.out | exact HB9x.out)).mono ?_
                     rintro e w10 ⟨rfl, j10, rfl⟩
                     have y10 := blk_bel HY9.out (below_drewN (n := j10) (Below.refl _ _))
                     have y0 := blk_cell y10 0 rfl
                     have y1 := blk_cell y10 1 rfl
                     have y2 := blk_cell y10 2 rfl
                     have hzb0 := blk_bel HZ8.out HB9x.out
                     have hzb1 := blk_alloc hzb0 (.cells #[.int .i64 8, .slice A9 n9 c9, .slice A10 n10 c10] 39)
                     have hzb := blk_bel hzb1 (below_drewN (n := j10) (Below.refl _ _))
                     have z0 := blk_cell hzb 0 rfl
                     have z1 := blk_cell hzb 1 rfl
                     have z2 := blk_cell hzb 2 rfl
                     have f0 := blk_free hzb 0
                     have f1 := blk_free hzb 1
                     have f2 := blk_free hzb 2
                     clear hzb hzb0 hzb1 y10))
                exact bodyPost_ret (v := .tuple #[prfV 8 A9 n9 c9 A10 n10 c10, .int .i64 0]) (by simp [results, Tryz.results55, go_sem, z0, z1, z2]) rfl (by rw [HFD.out]; exact pfp_set (pfp_bel HP9.out (bq_dn (bq_al (Below.refl _ _)))) HB8.out (Nat.le_succ _) HQ.out)
              · have HNE := Lib.hid hsz
                have hcmp : ((S'.size : Int) == (Sk.size : Int)) = false := by
                  rw [beq_eq_false_iff_ne]; intro h; exact hsz (by omega)
                clear hsz
                as_aux_lemma =>
                have HMS : Hid (301 - S'.size < 301 - Sk.size) := Lib.hid (by have := HNE.out; have := HZS.out; have := HSZ7.out; omega)
                go_wp2_with (first
                  | (go_at_call 97
                     refine HCK.out.mono ?_
                     rintro e w9 ⟨A9, n9, c9, A10, n10, c10, F9, rfl, ho9, hp9, hF9, hd9, hb9⟩
                     have HP9 : Hid (PfP w8 (8, NS, WS, 0) (.returned (.tuple #[prfV 8 A9 n9 c9 A10 n10 c10, .int .i64 0])) w9) := Lib.hid ⟨A9, n9, c9, A10, n10, c10, F9, rfl, ho9, hp9, hF9, hd9, hb9⟩
                     have HB9x := Lib.hid hb9
                     have y9 := box_new w9 #[.int .i64 8, .slice A9 n9 c9, .slice A10 n10 c10] 39
                     have HY9 := Lib.hid y9
                     clear ho9 hp9 hF9 hd9 hb9 x0 x1 x2 x3 y9)
                  | (go_at_call 95
                     with_reducible refine (HCN8.out _ (by first | exact bq_al HB9x.out | exact HB9x.out)).mono ?_
                     rintro e w10 ⟨rfl, j10, rfl⟩
                     have y10 := blk_bel HY9.out (below_drewN (n := j10) (Below.refl _ _))
                     have y0 := blk_cell y10 0 rfl
                     have y1 := blk_cell y10 1 rfl
                     have y2 := blk_cell y10 2 rfl
                     have hzb0 := blk_bel HZ8.out HB9x.out
                     have hzb1 := blk_alloc hzb0 (.cells #[.int .i64 8, .slice A9 n9 c9, .slice A10 n10 c10] 39)
                     have hzb := blk_bel hzb1 (below_drewN (n := j10) (Below.refl _ _))
                     have z0 := blk_cell hzb 0 rfl
                     have z1 := blk_cell hzb 1 rfl
                     have z2 := blk_cell hzb 2 rfl
                     have f0 := blk_free hzb 0
                     have f1 := blk_free hzb 1
                     have f2 := blk_free hzb 2
                     clear hzb hzb0 hzb1 y10))
                go_roundg (301 - S'.size)
                case rel => exact ⟨S', _, rfl, Lib.hid ⟨HZS.out, by have h1 := HBB7.out.2; have := HNE.out; have := HSZ7.out.1; have h2 : 2101 * (Sk.size + 1) ≤ 2101 * S'.size := Nat.mul_le_mul_left _ (by omega); omega⟩, HI7, HS8.out.below (bq_dn (bq_al HB9x.out)), Lib.hid (fun res h => HRES.out res (.more H1.out HOKF.out HNE.out h)), ch_drewN (HC8.out.trans (ch_below (bq_al HB9x.out)))⟩
                case measure => have := HMS.out; have := HGK.out; omega
end Go.Proofs.YtanicbbgneobpaaGreat
