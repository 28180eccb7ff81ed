/- FindContexts (reference): the search for the least proof of a size. Written by mk_frf.py. -/
import Derived.Test.YtanicbbgneobpaaGreatFrP
import Derived.Test.YtanicbbgneobpaaGreatFdJ
import Derived.Test.YtanicbbgneobpaaGreatFcC
import Derived.Deep.DrawnRows
namespace Go.Proofs.YtanicbbgneobpaaGreat
open Go.RowKit
set_option linter.unusedVariables false
set_option linter.unusedSimpArgs false
attribute [local go_sem ↓] Go.wp_at_zero Go.wp_at_succ
theorem mk_at {a W : World} {b n : Nat} (hn : n ≤ 100000) (h : Below (a.alloc (.cells (madeCells #[.int .i64 0] n) 2)).heap.size (a.alloc (.cells (madeCells #[.int .i64 0] n) 2)) W) (hb : b = a.heap.size) : W.ownsRow 0 2 1 (.slice (some ⟨b, 0, none⟩) n n) n (ints (List.replicate n 0)) := by
  subst hb
  exact ownN_base (ownN_below (own_mkz n hn a) h (Nat.le_refl _)) (Nat.zero_le _)
theorem bx_at {a W : World} {b T : Nat} {cells : Array Value} (h : Below (a.alloc (.cells cells T)).heap.size (a.alloc (.cells cells T)) W) (hb : b = a.heap.size) : W.heap[b]? = some (.cells cells T (0, 0)) := by
  subst hb
  exact blk_bel (box_new a cells T) h
theorem lit_at {a W : World} {b : Nat} {u : Value} (h : Below (a.alloc (.cells #[u] 25)).heap.size (a.alloc (.cells #[u] 25)) W) (hb : b = a.heap.size) : W.ownsRow 0 25 1 (.slice (some ⟨b, 0, none⟩) 1 1) 1 [u] := by
  subst hb
  exact ownN_below (tmp_new a u 25) h (Nat.le_refl _)
theorem mo_t {a b c : Nat} (hx : true = decide (¬ b = a)) (h1 : a ≤ b) (h2 : b ≤ c) : true = decide (¬ c = a) := by
  have h := of_decide_eq_true hx.symm
  exact (decide_eq_true (by omega)).symm
theorem mo_f {a b c : Nat} {y : Bool} (hx : false = decide (¬ b = a)) (hy : y = decide (¬ c = b)) : y = decide (¬ c = a) := by
  have h : b = a := by have := of_decide_eq_false hx.symm; omega
  rw [hy, h]
theorem ne_of_dec {p : Prop} [Decidable p] (h : true = decide (¬ p)) : ¬ p := of_decide_eq_true h.symm
theorem eq_of_dec {p : Prop} [Decidable p] (h : false = decide (¬ p)) : p := Decidable.not_not.1 (of_decide_eq_false h.symm)
theorem frf_meas {gk a c : Nat} {b : Bool} (hg : gk = if (true : Bool) = true then 302 - a else 0) (ha : a ≤ 300) (hc : c ≤ 300) (hb : b = decide (¬ c = a)) (h : a ≤ c) : (if b = true then 302 - c else 0) < gk := by
  rw [if_pos rfl] at hg
  cases b with
  | true => have h2 := ne_of_dec hb; rw [if_pos rfl]; omega
  | false => rw [if_neg (by simp)]; omega
set_option maxHeartbeats 16000000 in
set_option maxRecDepth 100000 in
theorem l29Find_any (w : World) (gm : Nat) (s : Nat) (t : Int) (A : Option Addr) (n c : Nat) (rs : List Rul) (hm : BM w gm s t A n c) (hr : Rd w A (n * 3) (ints (flatR rs))) (hn : n ≤ 1099511627776) (hok : okM s t rs = true) (N : Nat) (hN : 1 ≤ N ∧ N ≤ 4) :
    Calls Tryz.prog 52 #[.pointer (some ⟨gm, 0, none⟩), .int .i64 N] w (PfP w (fdP s rs N (st0 N))) := by
  obtain ⟨w0, hw0⟩ : ∃ w0, w0 = w.alloc (.cells pfZq 39) := ⟨_, rfl⟩
  have hB : Below w.heap.size w w0 := by rw [hw0]; exact below_new w _
  have hz : w0.heap[w.heap.size]? = some (.cells pfZq 39 (0, 0)) := by rw [hw0]; exact box_new _ _ _
  have HZ := Lib.hid hz; have HB := Lib.hid hB; have HN4 := Lib.hid hN; have HOK := Lib.hid hok; have HNN := Lib.hid hn
  have HM : Hid (BM w0 gm s t A n c) := Lib.hid (hm.bel hB)
  have HR := Lib.hid (hr.below hB (Nat.le_refl _))
  have HI0 := Lib.hid (st0_inv hok hN)
  have h1 := fun w => run_mkz N (by omega) w
  clear hB hz hm hr hn hok hN
  go_enter Tryz.func52, Tryz.ntmps52
  go_upto_region 1 with fail
  rw [← hw0]
  clear hw0
  as_aux_lemma =>
  go_cut [6] from 17 to 25 (fun s6 wx => ∃ (g : Nat) (F : Nat → Prop), s6 = .pointer (some ⟨g, 0, none⟩) ∧ RefE wx F g N ⟨[List.replicate N 0], [List.replicate N 0], []⟩ ∧ (∀ q, F q → w0.heap.size ≤ q) ∧ Below w0.heap.size w0 wx)
  case first =>
    as_aux_lemma =>
    (first | (go_region_held3 (fun _ => True) (exact trivial) (fail)) | fail)
    all_goals
      as_aux_lemma =>
      clear h1
      go_wp2_with fail
      go_meet
      first
        | (refine ⟨w0.heap.size + 1 + 1 + 1 + 1, _, rfl, refe_init (b1 := w0.heap.size) (q1 := w0.heap.size + 1) (b2 := w0.heap.size + 1 + 1) (q2 := w0.heap.size + 1 + 1 + 1) (bx_at (by first | exact (Below.refl _ _) | exact (bq_dr (Below.refl _ _))) (by simp)) (mk_at (by have := HN4.out; omega) (by first | exact (bq_al (bq_al (bq_al (bq_al (Below.refl _ _))))) | exact (bq_dr (bq_al (bq_al (bq_al (bq_al (Below.refl _ _))))))) (by simp)) (lit_at (by first | exact (bq_al (bq_al (bq_al (Below.refl _ _)))) | exact (bq_dr (bq_al (bq_al (bq_al (Below.refl _ _)))))) (by simp)) (mk_at (by have := HN4.out; omega) (by first | exact (bq_al (bq_al (Below.refl _ _))) | exact (bq_dr (bq_al (bq_al (Below.refl _ _))))) (by simp)) (lit_at (by first | exact (bq_al (Below.refl _ _)) | exact (bq_dr (bq_al (Below.refl _ _)))) (by simp)) HN4.out (by omega) (by omega), ?_, ?_⟩)
        | (refine ⟨w0.heap.size + 1 + 1 + 1 + 1, _, rfl, refe_init (b1 := w0.heap.size) (q1 := w0.heap.size + 1 + 1) (b2 := w0.heap.size + 1) (q2 := w0.heap.size + 1 + 1 + 1) (bx_at (by first | exact (Below.refl _ _) | exact (bq_dr (Below.refl _ _))) (by simp)) (mk_at (by have := HN4.out; omega) (by first | exact (bq_al (bq_al (bq_al (bq_al (Below.refl _ _))))) | exact (bq_dr (bq_al (bq_al (bq_al (bq_al (Below.refl _ _))))))) (by simp)) (lit_at (by first | exact (bq_al (bq_al (Below.refl _ _))) | exact (bq_dr (bq_al (bq_al (Below.refl _ _))))) (by simp)) (mk_at (by have := HN4.out; omega) (by first | exact (bq_al (bq_al (bq_al (Below.refl _ _)))) | exact (bq_dr (bq_al (bq_al (bq_al (Below.refl _ _)))))) (by simp)) (lit_at (by first | exact (bq_al (Below.refl _ _)) | exact (bq_dr (bq_al (Below.refl _ _)))) (by simp)) HN4.out (by omega) (by omega), ?_, ?_⟩)
        | (refine ⟨w0.heap.size + 1 + 1 + 1 + 1, _, rfl, refe_init (b1 := w0.heap.size) (q1 := w0.heap.size + 1 + 1 + 1) (b2 := w0.heap.size + 1) (q2 := w0.heap.size + 1 + 1) (bx_at (by first | exact (Below.refl _ _) | exact (bq_dr (Below.refl _ _))) (by simp)) (mk_at (by have := HN4.out; omega) (by first | exact (bq_al (bq_al (bq_al (bq_al (Below.refl _ _))))) | exact (bq_dr (bq_al (bq_al (bq_al (bq_al (Below.refl _ _))))))) (by simp)) (lit_at (by first | exact (bq_al (Below.refl _ _)) | exact (bq_dr (bq_al (Below.refl _ _)))) (by simp)) (mk_at (by have := HN4.out; omega) (by first | exact (bq_al (bq_al (bq_al (Below.refl _ _)))) | exact (bq_dr (bq_al (bq_al (bq_al (Below.refl _ _)))))) (by simp)) (lit_at (by first | exact (bq_al (bq_al (Below.refl _ _))) | exact (bq_dr (bq_al (bq_al (Below.refl _ _))))) (by simp)) HN4.out (by omega) (by omega), ?_, ?_⟩)
        | (refine ⟨w0.heap.size + 1 + 1 + 1 + 1, _, rfl, refe_init (b1 := w0.heap.size + 1) (q1 := w0.heap.size + 1 + 1) (b2 := w0.heap.size) (q2 := w0.heap.size + 1 + 1 + 1) (bx_at (by first | exact (Below.refl _ _) | exact (bq_dr (Below.refl _ _))) (by simp)) (mk_at (by have := HN4.out; omega) (by first | exact (bq_al (bq_al (bq_al (Below.refl _ _)))) | exact (bq_dr (bq_al (bq_al (bq_al (Below.refl _ _)))))) (by simp)) (lit_at (by first | exact (bq_al (bq_al (Below.refl _ _))) | exact (bq_dr (bq_al (bq_al (Below.refl _ _))))) (by simp)) (mk_at (by have := HN4.out; omega) (by first | exact (bq_al (bq_al (bq_al (bq_al (Below.refl _ _))))) | exact (bq_dr (bq_al (bq_al (bq_al (bq_al (Below.refl _ _))))))) (by simp)) (lit_at (by first | exact (bq_al (Below.refl _ _)) | exact (bq_dr (bq_al (Below.refl _ _)))) (by simp)) HN4.out (by omega) (by omega), ?_, ?_⟩)
        | (refine ⟨w0.heap.size + 1 + 1 + 1 + 1, _, rfl, refe_init (b1 := w0.heap.size + 1) (q1 := w0.heap.size + 1 + 1 + 1) (b2 := w0.heap.size) (q2 := w0.heap.size + 1 + 1) (bx_at (by first | exact (Below.refl _ _) | exact (bq_dr (Below.refl _ _))) (by simp)) (mk_at (by have := HN4.out; omega) (by first | exact (bq_al (bq_al (bq_al (Below.refl _ _)))) | exact (bq_dr (bq_al (bq_al (bq_al (Below.refl _ _)))))) (by simp)) (lit_at (by first | exact (bq_al (Below.refl _ _)) | exact (bq_dr (bq_al (Below.refl _ _)))) (by simp)) (mk_at (by have := HN4.out; omega) (by first | exact (bq_al (bq_al (bq_al (bq_al (Below.refl _ _))))) | exact (bq_dr (bq_al (bq_al (bq_al (bq_al (Below.refl _ _))))))) (by simp)) (lit_at (by first | exact (bq_al (bq_al (Below.refl _ _))) | exact (bq_dr (bq_al (bq_al (Below.refl _ _))))) (by simp)) HN4.out (by omega) (by omega), ?_, ?_⟩)
        | (refine ⟨w0.heap.size + 1 + 1 + 1 + 1, _, rfl, refe_init (b1 := w0.heap.size + 1 + 1) (q1 := w0.heap.size + 1 + 1 + 1) (b2 := w0.heap.size) (q2 := w0.heap.size + 1) (bx_at (by first | exact (Below.refl _ _) | exact (bq_dr (Below.refl _ _))) (by simp)) (mk_at (by have := HN4.out; omega) (by first | exact (bq_al (bq_al (Below.refl _ _))) | exact (bq_dr (bq_al (bq_al (Below.refl _ _))))) (by simp)) (lit_at (by first | exact (bq_al (Below.refl _ _)) | exact (bq_dr (bq_al (Below.refl _ _)))) (by simp)) (mk_at (by have := HN4.out; omega) (by first | exact (bq_al (bq_al (bq_al (bq_al (Below.refl _ _))))) | exact (bq_dr (bq_al (bq_al (bq_al (bq_al (Below.refl _ _))))))) (by simp)) (lit_at (by first | exact (bq_al (bq_al (bq_al (Below.refl _ _)))) | exact (bq_dr (bq_al (bq_al (bq_al (Below.refl _ _)))))) (by simp)) HN4.out (by omega) (by omega), ?_, ?_⟩)
      · rintro q ⟨_, h | h | h | h | h⟩ <;> omega
      · (repeat (first | with_reducible exact Below.refl _ _ | with_reducible refine bq_al ?_ | with_reducible refine bq_dr ?_))
  case rest =>
    as_aux_lemma =>
    obtain ⟨g, F, rfl, hre, hF, hb⟩ := hcut
    obtain ⟨w1, rfl⟩ : ∃ v, v = wc := ⟨_, rfl⟩
    obtain ⟨K, hK⟩ : ∃ K, K = 2 * N + 1 := ⟨_, rfl⟩
    have HK := Lib.hid hK
    have e1 : IntKind.i64.wrap (2 * (N : Int)) = 2 * (N : Int) := IntWalk.i64_in _ (by have := HN4.out; omega)
    have e2 : IntKind.i64.wrap (2 * (N : Int) + 1) = (K : Int) := by rw [hK]; exact (IntWalk.i64_in _ (by have := HN4.out; omega)).trans (by omega)
    have h2 := fun w => run_mkz K (by have := HN4.out; omega) w
    obtain ⟨w2, hw2⟩ : ∃ w2, w2 = w1.alloc (.cells (madeCells #[.int .i64 0] K) 2) := ⟨_, rfl⟩
    have HB12 : Hid (Below w1.heap.size w1 w2) := Lib.hid (by rw [hw2]; exact below_new _ _)
    have HRW : Hid (w2.ownsRow w1.heap.size 2 1 (.slice (some ⟨w1.heap.size, 0, none⟩) K K) K (ints (List.replicate K 0))) := Lib.hid (by rw [hw2]; exact own_mkz K (by have := HN4.out; omega) w1)
    have HE0 : Hid ((⟨[List.replicate N 0], [List.replicate N 0], putL [] (0 :: List.replicate K 0)⟩ : St3) = st0 N) := Lib.hid (by rw [hK]; rfl)
    have HAD : Hid (Calls Tryz.prog 86 #[.pointer (some ⟨g, 0, none⟩), .int .i64 0, .slice (some ⟨w1.heap.size, 0, none⟩) K K] w2 (fun e w' => ∃ b F', e = .returned (.bool b) ∧ RefE w' F' g N (st0 N) ∧ (∀ q, F' q → w0.heap.size ≤ q) ∧ Below w0.heap.size w0 w')) := Lib.hid (by
      obtain ⟨A1, n1, c1, us1, A2, n2, c2, us2, A3, n3, c3, us3, A4, c4, sts, cs, hl, hx⟩ := hre.below HB12.out
      have hr0 := ownN_base HRW.out (Nat.zero_le _)
      have hk : K ≤ 1000000 := by have := HN4.out; omega
      have h3 : n3 ≤ 1000000 := by
        have h1 := congrArg List.length hx.st
        unfold stated at h1
        simp only [List.length_zipWith, List.length_nil] at h1
        have h2 := hx.x3.ownp.rdl.len
        omega
      refine (l29Add_any w2 g N (.slice A1 n1 c1) (.slice A2 n2 c2) A3 n3 c3 us3 A4 c4 sts cs hx.bs hx.x3 hx.x4 h3 (by rw [hx.st]; exact List.Pairwise.nil) 0 (some ⟨w1.heap.size, 0, none⟩) K K (List.replicate K 0) (own_rd hr0) hk).mono ?_
      intro e w' hq
      obtain ⟨_, _, _, _, _, _, _, _, rfl, hl', hx', hc'⟩ := refx_add hx List.Pairwise.nil hl hr0 (by omega) (fun q a b => by
        have h1 := (HRW.out.lt q a).1
        obtain ⟨_, _, _, _, _, _, _, _, _, _, _, _, _, _, _, _, _, hx0⟩ := hre
        have h2 := hx0.lt q b
        omega) hq
      rw [HE0.out] at hx'
      refine ⟨_, _, rfl, ⟨_, _, _, _, _, _, _, _, _, _, _, _, _, _, _, _, hl', hx'⟩, fun q a => ?_, ?_⟩
      · rcases a.1 with a | a | a
        · exact hF q a
        · exact Nat.le_trans hb.size (HRW.out.lt q a).1
        · exact Nat.le_trans hb.size (Nat.le_trans HB12.out.size a)
      · exact below_ch (hb.trans (HB12.out.mono hb.size)) hc' hF (Nat.le_trans hb.size HB12.out.size))
    have HE1 := Lib.hid e1; have HE2 := Lib.hid e2
    clear hre hF hb hK
    go_upto_region 3 with (go_at_call 86; rw [← hw2]; refine HAD.out.mono ?_; rintro e w3 ⟨b0, F3, rfl, hre3, hF3, hb3⟩)
    as_aux_lemma =>
    have HRE3 := Lib.hid hre3; have HF3 := Lib.hid hF3; have HB3 := Lib.hid hb3
    clear hre3 hF3 hb3 e1 e2 h2 hw2
    go_wp2_with fail
    go_loopg [7] (299 : Nat) (fun gk q wr => ∃ (Sk : St3) (F : Nat → Prop) (b : Bool), q = .bool b ∧ gk = (if b then 302 - Sk.size else 0) ∧ Hid (Sk.size ≤ 300) ∧ Hid (InvF s t rs N Sk) ∧ Hid (RefE wr F g N Sk) ∧ Hid (∀ q, F q → w0.heap.size ≤ q) ∧ Below w0.heap.size w0 wr ∧ Hid (b = true → ∀ res, FdR s rs N Sk res → FdR s rs N (st0 N) res) ∧ Hid (b = false → okF N Sk = true ∧ FdR s rs N (st0 N) (prF N Sk)))
    case atStart => exact ⟨st0 N, F3, true, rfl, by rw [st0_size]; rfl, Lib.hid (by rw [st0_size]; omega), HI0, HRE3, HF3, HB3.out, Lib.hid (fun _ _ h => h), Lib.hid (fun h => by cases h)⟩
    case round =>
      as_aux_lemma =>
      obtain ⟨Sk, F, b, rfl, hgk, HSZ, HIK, HRE, HFF, hb, HRES, HFIN⟩ := hrel
      have HGK := Lib.hid hgk; have HBR := Lib.hid hb
      clear hgk
      cases b with
      | false =>
        as_aux_lemma =>
        have HFD : Hid (fdP s rs N (st0 N) = (8, nsF N Sk, wsF Sk, 0)) := Lib.hid (by rw [← prF_yes (HFIN.out rfl).1]; exact fdP_of (HFIN.out rfl).2)
        have HOU := outE HRE.out (by have := HSZ.out; omega)
        rw [(HFIN.out rfl).1] at HOU
        replace HOU := Lib.hid HOU
        generalize nsF N Sk = NS at *
        generalize wsF Sk = WS at *
        have HZR := Lib.hid (blk_bel HZ.out hb)
        clear hb
        go_wp2_with (go_at_call 89
                     refine HOU.out.mono ?_
                     rintro e w5 ⟨A8, n8, c8, B8, m8, d8, us8, rfl, ho8, hx8, hf8, hg8, hd8, hb8⟩
                     have HO8 := Lib.hid ho8; have HX8 := Lib.hid hx8; have HF8 := Lib.hid hf8; have HG8 := Lib.hid hg8; have HD8 := Lib.hid hd8; have HB8 := Lib.hid hb8
                     have hzb := blk_alloc (blk_bel HZR.out hb8) (.cells #[.int .i64 8, .slice A8 n8 c8, .slice B8 m8 d8] 39)
                     have z0 := blk_cell hzb 0 rfl
                     have z1 := blk_cell hzb 1 rfl
                     have z2 := blk_cell hzb 2 rfl
                     have f0 := blk_free hzb 0
                     have f1 := blk_free hzb 1
                     have f2 := blk_free hzb 2
                     clear ho8 hx8 hf8 hg8 hd8 hb8 hzb)
        exact bodyPost_ret (v := .tuple #[prfV 8 A8 n8 c8 B8 m8 d8, .int .i64 0]) (by simp [results, Tryz.results52, go_sem, z0, z1, z2]) rfl (by
          rw [HFD.out]
          have hw : Below w.heap.size w _ := HB.out.trans (HBR.out.mono HB.out.size)
          exact pfp_ok ((hw.trans (HB8.out.mono hw.size)).alloc (hw.trans (HB8.out.mono hw.size)).size _) (ownN_below HO8.out (below_new _ _) (Nat.le_refl _)) (HX8.out.below (below_new _ _)) HF8.out HG8.out HD8.out (Nat.le_refl _) (Nat.lt_of_lt_of_le (blk_lt HZ.out) HBR.out.size))
      | true =>
        as_aux_lemma =>
        obtain ⟨wA, rfl⟩ : ∃ v, v = wr := ⟨_, rfl⟩
        obtain ⟨A1, n1, c1, us1, A2, n2, c2, us2, A3, n3, c3, us3, A4, c4, sts, cs, hl, hx⟩ := HRE.out
        have HX := Lib.hid hx; have HL := Lib.hid hl
        have HCS : Hid (cs.length = n3) := Lib.hid hx.x3.ownp.rdl.len
        have HST : Hid (stated sts cs = Sk.c) := Lib.hid hx.st
        have HN3 : Hid (n3 ≤ 300) := Lib.hid (by
          have h1 := congrArg List.length hx.st
          unfold stated at h1
          simp only [List.length_zipWith] at h1
          have h2 := hx.x3.ownp.rdl.len
          have h3 := HSZ.out
          unfold St3.size at h3
          omega)
        have HCO := Lib.hid (l29Copy_any wA A3 n3 c3 cs hx.x3.ownp.rdl (by have := HN3.out; omega))
        have HOW : Hid (∀ wx : World, Below wA.heap.size wA wx → Calls Tryz.prog 66 #[.slice A4 n3 c4] wx (RetS wx 2 (ints sts))) := Lib.hid (fun wx hbx => l00Own_any wx A4 n3 c4 sts (own_rd (ownN_below HX.out.x4 hbx (Nat.le_refl _))) (by have := HN3.out; omega))
        have hbs := hx.bs
        have q3 := blk_cell hbs 3 rfl
        have q4 := blk_cell hbs 4 rfl
        have HBS := Lib.hid hbs
        clear hbs hx hl hb
        go_upto_region 8 with (first
          | (go_at_call 87
             refine HCO.out.mono ?_
             rintro e w4 ⟨A5, n5, c5, F5, rfl, ho5, hf5, hb4⟩
             have HO5 := Lib.hid ho5; have HF5 := Lib.hid hf5; have HB4 := Lib.hid hb4
             have q4 := blk_cell (blk_bel HBS.out hb4) 4 rfl
             clear ho5 hf5 hb4)
          | (go_at_call 66
             refine (HOW.out _ HB4.out).mono ?_
             rintro e w5 ⟨A6, n6, c6, rfl, ho6, hb5⟩
             have HO6 := Lib.hid ho6; have HB5 := Lib.hid hb5
             clear ho6 hb5))
        as_aux_lemma =>
        have HBW5 : Hid (Below wA.heap.size wA w5) := Lib.hid (HB4.out.trans (HB5.out.mono HB4.out.size))
        obtain ⟨us, hu5, hfu5, hin5, hlt5⟩ := HO5.out
        have HOR : Hid (w5.ownsRow 0 25 1 (.slice A5 n5 c5) n5 us) := Lib.hid (ownN_below hu5 HB5.out (Nat.le_refl _))
        have HIN : Hid (InnerP w5 F5 us cs) := Lib.hid (hin5.ch (G := fun _ => False) (ch_below HB5.out) (fun _ _ h => h))
        have HFB : Hid (∀ q, Fo (.slice A5 n5 c5) q → F5 q) := Lib.hid hfu5
        have HLN : Hid (cs.length = n5) := Lib.hid HO5.out.len
        have hn5 : n5 ≤ 300 := by have h1 := HLN.out; have h2 := HCS.out; have h3 := HN3.out; omega
        have HUS : Hid (us.length = n5) := Lib.hid (by have h1 := HIN.out.1; have h2 := HLN.out; omega)
        have HFL : Hid (∀ q, F q → q < wA.heap.size) := Lib.hid (fun q a => HX.out.lt q a)
        have HGM : Hid (gm < w0.heap.size) := Lib.hid (blk_lt HM.out)
        have HAB : Hid (∀ b off, A = some ⟨b, off, none⟩ → b < w0.heap.size) := Lib.hid (fun b off e => by
          have hp : 0 < n * 3 := by
            obtain ⟨h1, h2, h3, _⟩ := okM_all HOK.out
            have h4 := HR.out.1
            simp only [List.length_map, flatR_len] at h4
            have h5 : (0 : Int) < (s : Int) * t := Int.mul_pos (by omega) (by omega)
            omega
          obtain ⟨b', off', e', hlt, _⟩ := HR.out.2 hp
          rw [e] at e'
          injection e' with e'
          injection e' with e'
          omega)
        clear hu5 hfu5 hin5 hlt5 q4
        go_wp2_with fail
        go_loopw [7, 10] (fun q i wx => ∃ (k : Nat) (S1 : St3) (F1 : Nat → Prop) (b1 : Bool), k ≤ n5 ∧ i = .int .i64 k ∧ q = .bool b1 ∧ Hid (roundF s rs Sk (Sk.c.take k) = some S1) ∧ Hid (b1 = decide (¬ S1.size = Sk.size)) ∧ Hid (InvF s t rs N S1 ∧ Sk.size ≤ S1.size ∧ S1.size ≤ Sk.size + 7 * k) ∧ Hid (RefE wx F1 g N S1) ∧ Hid (∀ q, F1 q → F q ∨ w5.heap.size ≤ q) ∧ Hid (Ch F w5 wx)) (fun _ i _ => n5 - (intOf i).toNat)
        case atStart => exact ⟨0, Sk, F, false, Nat.zero_le _, rfl, rfl, Lib.hid (by simp [roundF]), Lib.hid (by simp), Lib.hid ⟨HIK.out, Nat.le_refl _, by omega⟩, Lib.hid (HRE.out.below HBW5.out), Lib.hid (fun q a => .inl a), Lib.hid (Ch.refl _ _)⟩
        case round =>
          as_aux_lemma =>
          obtain ⟨k, S1, F1, b1, hk, rfl, rfl, HRO, HBB, HIV, HRE1, HF1, HCH⟩ := hrel
          have HBX : Hid (Below w0.heap.size w0 wr) := Lib.hid (below_ch (HBR.out.trans (HBW5.out.mono HBR.out.size)) HCH.out HFF.out (Nat.le_trans HBR.out.size HBW5.out.size))
          have HF0 : Hid (∀ q, F1 q → w0.heap.size ≤ q) := Lib.hid (fun q a => by
            rcases HF1.out q a with b | b
            · exact HFF.out q b
            · exact Nat.le_trans (Nat.le_trans HBR.out.size HBW5.out.size) b)
          by_cases hlt : k < n5
          · as_aux_lemma =>
            have HLT := Lib.hid hlt
            have hlti : (k : Int) < (n5 : Int) := by omega
            have hk0 : (0 : Int) ≤ (k : Int) := by omega
            obtain ⟨z, hz⟩ := get_some (xs := cs) (k := k) (by rw [HLN.out]; exact hlt)
            obtain ⟨u, hu⟩ := get_some (xs := us) (k := k) (by rw [HUS.out]; exact hlt)
            obtain ⟨st, hst⟩ := get_some (xs := sts) (k := k) (by rw [HL.out, HLN.out]; exact hlt)
            obtain ⟨A8, n8, c8, rfl, hn8, ho8, hfu8⟩ := HIN.out.2.1 k u z hu hz
            obtain ⟨b3, o3, e3, hl3, hc3⟩ := (own_rd HOR.out).at_ hu
            obtain ⟨b6, o6, e6, hl6, hc6⟩ := (own_rd HO6.out).at_ (ints_get hst)
            have hn6 : k < n6 := by
              have h1 : sts.length = n6 := by simpa using HO6.out.1
              have h2 := HL.out
              have h3 := HLN.out
              omega
            have hn6i : (k : Int) < (n6 : Int) := by omega
            subst e3
            subst e6
            have HSC : Hid (Sk.c[k]? = some (st :: z)) := Lib.hid (by rw [← HST.out]; unfold stated; simp [List.getElem?_zipWith, hst, hz])
            obtain ⟨st', y', he, hcz, hyl⟩ := HIK.out.wc _ (List.mem_of_getElem? HSC.out)
            injection he with he1 he2
            subst he1
            subst he2
            have HZC := Lib.hid hcz; have HZL := Lib.hid hyl
            have HTK : Hid (Sk.c.take (k + 1) = Sk.c.take k ++ [st :: z]) := Lib.hid (by rw [List.take_add_one, HSC.out]; rfl)
            have HB3 : Hid (¬ F b3) := Lib.hid (fun b => by
              have h1 := (HF5.out b3 (HFB.out b3 (by simp [Fo, Value.ownBlock]))).1
              have h2 := HFL.out b3 b
              omega)
            have HB6 : Hid (¬ F b6) := Lib.hid (fun b => by
              have h1 := (HO6.out.lt b6 (by simp [Fo, Value.ownBlock])).1
              have h2 := HFL.out b6 b
              have h3 := HB4.out.size
              omega)
            have HB3K : Hid (¬ F1 b3) := Lib.hid (fun b => by rcases HF1.out b3 b with d | d; exact HB3.out d; omega)
            have HB6K : Hid (¬ F1 b6) := Lib.hid (fun b => by rcases HF1.out b6 b with d | d; exact HB6.out d; omega)
            have q3 := cell_chF HCH.out hl3 HB3.out hc3
            have q6 := cell_chF HCH.out hl6 HB6.out hc6
            have HQ3 := Lib.hid q3; have HQ6 := Lib.hid q6
            have HB3L : Hid (b3 < wr.heap.size) := Lib.hid (Nat.lt_of_lt_of_le hl3 HCH.out.size)
            have HB6L : Hid (b6 < wr.heap.size) := Lib.hid (Nat.lt_of_lt_of_le hl6 HCH.out.size)
            have HA8 : Hid (∀ b off, A8 = some ⟨b, off, none⟩ → ¬ F1 b) := Lib.hid (fun b off e d => by
              have hfo : Fo (.slice A8 n8 c8) b := by rw [e]; simp [Fo, Value.ownBlock]
              have h1 := HF5.out b (hfu8 b hfo)
              rcases HF1.out b d with d | d
              · have h2 := HFL.out b d
                omega
              · have h3 := HB5.out.size
                omega)
            have HR8 : Hid (Rd wr A8 n8 (ints z)) := Lib.hid (rd_chF (own_rd ho8) HCH.out (fun b off e d => by
              have hfo : Fo (.slice A8 n8 c8) b := by rw [e]; simp [Fo, Value.ownBlock]
              have h1 := HF5.out b (hfu8 b hfo)
              have h2 := HFL.out b d
              omega))
            have HC8 : Hid (n8 ≤ c8) := Lib.hid (ownN_cap ho8)
            have HGR : Hid (∀ wx : World, Below wr.heap.size wr wx → Calls Tryz.prog 88 #[.pointer (some ⟨gm, 0, none⟩), .pointer (some ⟨g, 0, none⟩), .int .i64 st, .slice A8 n8 c8] wx (GrP wx F1 g N s rs S1 st z)) := Lib.hid (fun wx hbx => by
              obtain ⟨B1, m1, d1, vs1, B2, m2, d2, vs2, B3, m3, d3, vs3, B4, d4, sts', cs', hlk, hxk⟩ := HRE1.out.below hbx
              have hbw := HBX.out.trans (hbx.mono HBX.out.size)
              exact l29Grow_any wx F1 g N S1 B1 m1 d1 vs1 B2 m2 d2 vs2 B3 m3 d3 vs3 B4 d4 sts' cs' hxk hlk gm s t A n c rs (HM.out.bel hbw) (fun d => by have h1 := HF0.out gm d; have h2 := HGM.out; omega) (HR.out.below hbw (Nat.le_refl _)) (fun b off e d => by have h1 := HF0.out b d; have h2 := HAB.out b off e; omega) HNN.out HIV.out.1 (by have h1 := HIV.out.2.2; have h2 := HSZ.out; omega) HN4.out st A8 n8 c8 z (HR8.out.below hbx (Nat.le_refl _)) HC8.out HA8.out HZC.out HZL.out)
            have HRF : Hid (Below wr.heap.size wr wr) := Lib.hid (Below.refl _ _)
            have HRD : Hid (Below wr.heap.size wr wr.drew) := Lib.hid (below_drewN (n := 1) (Below.refl _ _))
            obtain ⟨gf, hgf⟩ : ∃ gf, gf = growF s rs S1 st z := ⟨_, rfl⟩
            have HGF := Lib.hid hgf
            clear hz hu hst ho8 hc3 hl3 hc6 hl6 hfu8 hn8 hcz hyl hgf
            cases gf with
            | none =>
              as_aux_lemma =>
              have HFD : Hid (fdP s rs N (st0 N) = (0, [], [], 3)) := Lib.hid (fdP_of (HRES.out (by first | exact trivial | exact rfl) _ (.stuck (by
                have e : Sk.c = Sk.c.take k ++ (st :: z) :: Sk.c.drop (k + 1) := by
                  conv => lhs; rw [← List.take_append_drop (k + 1) Sk.c, HTK.out]
                  simp
                rw [e]
                exact roundF_none HRO.out (HGF.out.symm)))))
              have HGC : Hid (∀ wx : World, Below wr.heap.size wr wx → Calls Tryz.prog 88 #[.pointer (some ⟨gm, 0, none⟩), .pointer (some ⟨g, 0, none⟩), .int .i64 st, .slice A8 n8 c8] wx (fun e w' => e = .returned (.tuple #[.bool false, .bool false]) ∧ Ch F1 wx w')) := Lib.hid (fun wx hbx => by
                refine (HGR.out wx hbx).mono ?_
                rintro e w' (⟨_, h2, h3⟩ | ⟨S2, F2, h1, _⟩)
                · exact ⟨h2, h3⟩
                · rw [← HGF.out] at h1; simp at h1)
              go_wp2_with fail
              (first | (go_region_held3 (fun w' => w'.cell? ⟨b3, o3 + k, none⟩ = some (.slice A8 n8 c8) ∧ w'.cell? ⟨b6, o6 + k, none⟩ = some (.int .i64 st)) (exact ⟨by assumption, by assumption⟩) (first
                | (go_simp
                   go_at_call 88
                   with_reducible refine (HGC.out _ (by first | exact HRF.out | exact HRD.out)).mono ?_
                   rintro e w8 ⟨rfl, hch8⟩
                   have HCH8 : Hid (Ch F1 wr w8) := Lib.hid (by first | exact hch8 | exact (ch_drew (Ch.refl _ _)).trans hch8)
                   have q3 := cell_chF HCH8.out HB3L.out HB3K.out HQ3.out
                   have q6 := cell_chF HCH8.out HB6L.out HB6K.out HQ6.out
                   clear hch8))) | fail)
              all_goals
                as_aux_lemma =>
                have HBX8 : Hid (Below w0.heap.size w0 w8) := Lib.hid (below_ch HBX.out HCH8.out HF0.out HBX.out.size)
                have HBW : Hid (Below w.heap.size w w8) := Lib.hid (HB.out.trans (HBX8.out.mono HB.out.size))
                have hzb := blk_bel HZ.out HBX8.out
                have z0 := blk_cell hzb 0 rfl
                have z1 := blk_cell hzb 1 rfl
                have z2 := blk_cell hzb 2 rfl
                have f0 := blk_free hzb 0
                have f1 := blk_free hzb 1
                have f2 := blk_free hzb 2
                clear hzb q3 q6
                go_wp2_with fail
                exact bodyPost_ret (v := .tuple #[prfV 0 none 0 0 none 0 0, .int .i64 3]) (by simp [results, Tryz.results52, go_sem, z0, z1, z2]) rfl (by rw [HFD.out]; first | exact pfp_err HBW.out (Nat.le_refl _) | exact pfp_err (below_drew1 HBW.out) (Nat.le_refl _))
            | some S2 =>
              as_aux_lemma =>
              obtain ⟨b2, hb2⟩ : ∃ b2, b2 = decide (¬ S2.size = S1.size) := ⟨_, rfl⟩
              have HB2 := Lib.hid hb2
              clear hb2
              have HGR2 : Hid (growR s rs S1 (st :: z) = some S2) := Lib.hid HGF.out.symm
              have HRO2 : Hid (roundF s rs Sk (Sk.c.take (k + 1)) = some S2) := Lib.hid (by rw [HTK.out, roundF_snoc HRO.out]; exact HGR2.out)
              have HSS : Hid (s ≤ 6) := Lib.hid (by have := (okM_all HOK.out).1; omega)
              have HSZ2 : Hid (S1.size ≤ S2.size ∧ S2.size ≤ S1.size + 7) := Lib.hid (growR_size HIV.out.1 HSS.out HGR2.out)
              have HIV2 : Hid (InvF s t rs N S2 ∧ Sk.size ≤ S2.size ∧ S2.size ≤ Sk.size + 7 * (k + 1)) := Lib.hid ⟨growR_inv HIV.out.1 ⟨st, z, rfl, HZC.out, HZL.out⟩ HGR2.out, by have h1 := HIV.out.2; have h2 := HSZ2.out; omega, by have h1 := HIV.out.2; have h2 := HSZ2.out; omega⟩
              have HGC : Hid (∀ wx : World, Below wr.heap.size wr wx → Calls Tryz.prog 88 #[.pointer (some ⟨gm, 0, none⟩), .pointer (some ⟨g, 0, none⟩), .int .i64 st, .slice A8 n8 c8] wx (fun e w' => e = .returned (.tuple #[.bool b2, .bool true]) ∧ ∃ F2, RefE w' F2 g N S2 ∧ (∀ q, F2 q → F1 q ∨ wx.heap.size ≤ q) ∧ Ch F1 wx w')) := Lib.hid (fun wx hbx => by
                refine (HGR.out wx hbx).mono ?_
                rintro e w' (⟨h1, _⟩ | ⟨S3, F2, h1, h2, h3, h4, h5⟩)
                · rw [← HGF.out] at h1; simp at h1
                · rw [← HGF.out] at h1
                  injection h1 with h1
                  subst h1
                  rw [HB2.out]
                  exact ⟨h2, F2, h3, h4, h5⟩)
              go_wp2_with fail
              (first | (go_region_held3 (fun w' => w'.cell? ⟨b3, o3 + k, none⟩ = some (.slice A8 n8 c8) ∧ w'.cell? ⟨b6, o6 + k, none⟩ = some (.int .i64 st)) (exact ⟨by assumption, by assumption⟩) (first
                | (go_simp
                   go_at_call 88
                   with_reducible refine (HGC.out _ (by first | exact HRF.out | exact HRD.out)).mono ?_
                   rintro e w8 ⟨rfl, F2, hre8, hf8, hch8⟩
                   have HCH8 : Hid (Ch F1 wr w8) := Lib.hid (by first | exact hch8 | exact (ch_drew (Ch.refl _ _)).trans hch8)
                   have HF8 : Hid (∀ q, F2 q → F1 q ∨ wr.heap.size ≤ q) := Lib.hid hf8
                   have HRE8 := Lib.hid hre8
                   have q3 := cell_chF HCH8.out HB3L.out HB3K.out HQ3.out
                   have q6 := cell_chF HCH8.out HB6L.out HB6K.out HQ6.out
                   clear hch8 hf8 hre8))) | fail)
              all_goals
                as_aux_lemma =>
                have HCW : Hid (Ch F w5 w8) := Lib.hid (ch_ext HCH.out HCH8.out HF1.out)
                have HFW : Hid (∀ q, F2 q → F q ∨ w5.heap.size ≤ q) := Lib.hid (fun q a => by
                  rcases HF8.out q a with b | b
                  · exact HF1.out q b
                  · exact .inr (Nat.le_trans HCH.out.size b))
                clear q3 q6
                cases b1 with
                | true =>
                  have HBN : Hid (true = decide (¬ S2.size = Sk.size)) := Lib.hid (mo_t HBB.out HIV.out.2.1 HSZ2.out.1)
                  go_wp2_with fail
                  go_roundw
                  case rel => exact ⟨k + 1, S2, F2, true, by omega, by go_num, rfl, HRO2, HBN, HIV2, Lib.hid (by first | exact HRE8.out | exact HRE8.out.below (below_drew1 (Below.refl _ _))), HFW, Lib.hid (by first | exact HCW.out | exact ch_drew HCW.out)⟩
                  case measure => simp [intOf]; omega
                | false =>
                  have HBN : Hid (b2 = decide (¬ S2.size = Sk.size)) := Lib.hid (mo_f HBB.out HB2.out)
                  go_wp2_with fail
                  go_roundw
                  case rel => exact ⟨k + 1, S2, F2, b2, by omega, by go_num, rfl, HRO2, HBN, HIV2, Lib.hid (by first | exact HRE8.out | exact HRE8.out.below (below_drew1 (Below.refl _ _))), HFW, Lib.hid (by first | exact HCW.out | exact ch_drew HCW.out)⟩
                  case measure => simp [intOf]; omega
          · as_aux_lemma =>
            have HRA : Hid (roundF s rs Sk Sk.c = some S1) := Lib.hid (by
              have h1 : Sk.c.length = cs.length := by
                have h1 := congrArg List.length HST.out
                unfold stated at h1
                simp only [List.length_zipWith] at h1
                have h2 := HL.out
                omega
              have h2 : Sk.c.take k = Sk.c := List.take_of_length_le (by have := HLN.out; omega)
              rw [← h2]; exact HRO.out)
            have HS7 : Hid (S1.size ≤ 100000) := Lib.hid (by have h1 := HIV.out.2.2; have h2 := HSZ.out; omega)
            have HZR := Lib.hid (blk_bel HZ.out HBX.out)
            have HBW : Hid (Below w.heap.size w wr) := Lib.hid (HB.out.trans (HBX.out.mono HB.out.size))
            obtain ⟨ok, hok⟩ : ∃ ok, ok = okF N S1 := ⟨_, rfl⟩
            have HOF := Lib.hid hok
            have HOU := outE HRE1.out HS7.out
            rw [← hok] at HOU
            replace HOU := Lib.hid HOU
            generalize nsF N S1 = NS at *
            generalize wsF S1 = WS at *
            clear hok
            cases ok with
            | false =>
              as_aux_lemma =>
              have HFD : Hid (fdP s rs N (st0 N) = (0, [], [], 5)) := Lib.hid (fdP_of (HRES.out (by first | exact trivial | exact rfl) _ (.full HRA.out HOF.out.symm)))
              go_wp2_with (go_at_call 89
                           refine HOU.out.mono ?_
                           rintro e w6 ⟨A8, n8, c8, B8, m8, d8, us8, rfl, ho8, hx8, hf8, hg8, hd8, hb8⟩
                           have HB8 := Lib.hid hb8
                           have hzb := blk_alloc (blk_bel HZR.out hb8) (.cells #[.int .i64 8, .slice A8 n8 c8, .slice B8 m8 d8] 39)
                           have z0 := blk_cell hzb 0 rfl
                           have z1 := blk_cell hzb 1 rfl
                           have z2 := blk_cell hzb 2 rfl
                           have f0 := blk_free hzb 0
                           have f1 := blk_free hzb 1
                           have f2 := blk_free hzb 2
                           clear ho8 hx8 hf8 hg8 hd8 hb8 hzb)
              exact bodyPost_ret (v := .tuple #[prfV 0 none 0 0 none 0 0, .int .i64 5]) (by simp [results, Tryz.results52, go_sem, z0, z1, z2]) rfl (by
                rw [HFD.out]
                have hw := HBW.out.trans (HB8.out.mono HBW.out.size)
                exact pfp_err (hw.alloc hw.size _) (Nat.le_refl _))
            | true =>
              as_aux_lemma =>
              go_wp2_with (go_at_call 89
                           refine HOU.out.mono ?_
                           rintro e w6 ⟨A8, n8, c8, B8, m8, d8, us8, rfl, ho8, hx8, hf8, hg8, hd8, hb8⟩
                           have HB8 := Lib.hid hb8
                           clear ho8 hx8 hf8 hg8 hd8 hb8)
              go_roundg (if b1 then 302 - S1.size else 0)
              case rel =>
                have hb6 := HBX.out.trans (HB8.out.mono HBX.out.size)
                exact ⟨S1, F1, b1, rfl, rfl, Lib.hid (okF_size HOF.out.symm), Lib.hid HIV.out.1, Lib.hid ((HRE1.out.below HB8.out).below (below_new _ _)), HF0, hb6.alloc hb6.size _, Lib.hid (fun hb res h => HRES.out (by first | exact trivial | exact rfl) res (.more HRA.out HOF.out.symm (ne_of_dec (hb.symm.trans HBB.out)) h)), Lib.hid (fun hb => ⟨HOF.out.symm, HRES.out (by first | exact trivial | exact rfl) _ (.stop HRA.out HOF.out.symm (eq_of_dec (hb.symm.trans HBB.out)))⟩)⟩
              case measure => exact frf_meas HGK.out HSZ.out (okF_size HOF.out.symm) HBB.out HIV.out.2.1
end Go.Proofs.YtanicbbgneobpaaGreat
