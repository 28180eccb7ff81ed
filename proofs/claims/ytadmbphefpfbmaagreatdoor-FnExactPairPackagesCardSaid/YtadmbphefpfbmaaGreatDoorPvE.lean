/- A program with one variable (program): oneVariable. -/
import Derived.Test.YtadmbphefpfbmaaGreatDoorPvD
import Derived.Test.YtadmbphefpfbmaaGreatDoorPvU
import Derived.Test.YtadmbphefpfbmaaGreatDoorPvO
namespace Go.Proofs.YtadmbphefpfbmaaGreatDoor
open Go.RowKit
set_option linter.unusedVariables false
set_option linter.unusedSimpArgs false
attribute [local go_sem ↓] Go.wp_at_zero Go.wp_at_succ
/-- The two lists while they grow. -/
structure St2 (w W : World) (B4 B8 N k kp : Nat) (A5 : Option Addr) (c5 : Nat) (A6 : Option Addr) (c6 : Nat) : Prop where
  s : LX W w.heap.size A5 k c5 ((startE N).take k)
  p : LX W w.heap.size A6 kp c6 ((placesE N).take kp)
  d : ∀ q, Fo (.slice A5 k c5) q → Fo (.slice A6 kp c6) q → False
  b4 : W.heap[B4]? = some (.cells #[.int .i64 (N : Int)] 2 (0, 0))
  b8 : W.heap[B8]? = some (.cells #[.slice A6 kp c6] 131 (0, 0))
  bel : Below w.heap.size w W
  hb : w.heap.size ≤ B8
theorem St2.below {w W V : World} {B4 B8 N k kp c5 c6 : Nat} {A5 A6 : Option Addr} (h : St2 w W B4 B8 N k kp A5 c5 A6 c6) (hb : Below W.heap.size W V) : St2 w V B4 B8 N k kp A5 c5 A6 c6 :=
  ⟨h.s.below hb, h.p.below hb, h.d, blk_bel h.b4 hb, blk_bel h.b8 hb, bqcP hb h.bel, h.hb⟩
theorem fo_own {w : World} {base e n c : Nat} {A : Option Addr} {vs : List Value} (h : w.ownsRow base e 1 (.slice A n c) n vs) : ∀ q, Fo (.slice A n c) q → base ≤ q ∧ q < w.heap.size := fun q hq => h.lt q hq
theorem lx_grow {W W' : World} {b k c c' b' m ce : Nat} {A A' Ae : Option Addr} {us : List Value} {es : List (List El)} {e : List El} (l1 : W.ownsRow b 42 1 (.slice A k c) k us) (l2 : InnX W us es) (hv : W.ownsRow b' 110 2 (.slice Ae m ce) m (ints (eNums e))) (hm : m ≤ 1000000)
    (ho' : W'.ownsRow 0 42 1 (.slice A' (k + 1) c') (k + 1) (us ++ [.slice Ae m ce])) (hc : Ch (Fo (.slice A k c)) W W') (hf : ∀ q, Fo (.slice A' (k + 1) c') q → Fo (.slice A k c) q ∨ W.heap.size ≤ q) (hb : b ≤ W.heap.size) : LX W' b A' (k + 1) c' (es ++ [e]) := by
  have hF : ∀ q, Fo (.slice A k c) q → ∀ ds, W.heap[q]? = some (.cells ds 110 (0, 0)) → False := fun q hq ds hd => by
    obtain ⟨es, h1⟩ := own_foP l1 hq
    exact blk_ne h1 hd (by decide) rfl
  have hv' := own_ch hv hc (fun q h1 h2 => own_types hv l1 (by decide) q h1 h2)
  refine ⟨_, own_up ho' (fun q hq => ?_), (l2.ch hc hF).snoc hm (ownN_cap hv') (ownN_base hv' (Nat.zero_le _))⟩
  rcases hf q hq with h | h
  · exact (l1.lt q h).1
  · omega
theorem lx_far {W W' : World} {b k c : Nat} {A : Option Addr} {es : List (List El)} {F : Nat → Prop} (h : LX W b A k c es) (hc : Ch F W W') (hd : ∀ q, Fo (.slice A k c) q → F q → False) (hF : ∀ q, F q → ∀ ds, W.heap[q]? = some (.cells ds 110 (0, 0)) → False) : LX W' b A k c es := by
  obtain ⟨us, h1, h2⟩ := h
  exact ⟨us, own_ch h1 hc hd, h2.ch hc hF⟩
theorem lx_lt {W : World} {b k c : Nat} {A : Option Addr} {es : List (List El)} (h : LX W b A k c es) : ∀ q, Fo (.slice A k c) q → b ≤ q ∧ q < W.heap.size := by
  obtain ⟨us, h1, _⟩ := h
  exact fun q hq => h1.lt q hq
theorem St2.addS {w W W' : World} {B4 B8 N k kp c5 c6 c' b' m ce : Nat} {A5 A6 A' Ae : Option Addr} {us : List Value} {e : List El} (h : St2 w W B4 B8 N k kp A5 c5 A6 c6) (l1 : W.ownsRow w.heap.size 42 1 (.slice A5 k c5) k us) (l2 : InnX W us ((startE N).take k)) (hv : W.ownsRow b' 110 2 (.slice Ae m ce) m (ints (eNums e))) (hm : m ≤ 1000000)
    (hst : (startE N).take (k + 1) = (startE N).take k ++ [e]) (ho' : W'.ownsRow 0 42 1 (.slice A' (k + 1) c') (k + 1) (us ++ [.slice Ae m ce])) (hc : Ch (Fo (.slice A5 k c5)) W W') (hf : ∀ q, Fo (.slice A' (k + 1) c') q → Fo (.slice A5 k c5) q ∨ W.heap.size ≤ q) : St2 w W' B4 B8 N (k + 1) kp A' c' A6 c6 := by
  have hne : ∀ q, Fo (.slice A5 k c5) q → ∃ cs, W.heap[q]? = some (.cells cs 42 (0, 0)) := fun q hq => own_foP l1 hq
  refine ⟨by rw [hst]; exact lx_grow l1 l2 hv hm ho' hc hf h.bel.size, lx_far h.p hc (fun q h1 h2 => h.d q h2 h1) (fun q hq ds hd => by obtain ⟨cs, h1⟩ := hne q hq; exact blk_ne h1 hd (by decide) rfl), fun q h1 h2 => ?_, blk_ch h.b4 hc (fun hq => by obtain ⟨cs, h1⟩ := hne _ hq; exact blk_ne h.b4 h1 (by decide) rfl), blk_ch h.b8 hc (fun hq => by obtain ⟨cs, h1⟩ := hne _ hq; exact blk_ne h.b8 h1 (by decide) rfl), below_ch h.bel hc (fun q hq => (l1.lt q hq).1) h.bel.size, h.hb⟩
  rcases hf q h1 with h3 | h3
  · exact h.d q h3 h2
  · have := (lx_lt h.p q h2).2; omega
theorem St2.addP {w W W' : World} {B4 B8 N k kp c5 c6 c' b' m ce : Nat} {A5 A6 A' Ae : Option Addr} {us : List Value} {e : List El} (h : St2 w W B4 B8 N k kp A5 c5 A6 c6) (l1 : W.ownsRow w.heap.size 42 1 (.slice A6 kp c6) kp us) (l2 : InnX W us ((placesE N).take kp)) (hv : W.ownsRow b' 110 2 (.slice Ae m ce) m (ints (eNums e))) (hm : m ≤ 1000000)
    (hst : (placesE N).take (kp + 1) = (placesE N).take kp ++ [e]) (ho' : W'.ownsRow 0 42 1 (.slice A' (kp + 1) c') (kp + 1) (us ++ [.slice Ae m ce])) (hc : Ch (Fo (.slice A6 kp c6)) W W') (hf : ∀ q, Fo (.slice A' (kp + 1) c') q → Fo (.slice A6 kp c6) q ∨ W.heap.size ≤ q) :
    W'.heap[B8]? = some (.cells #[.slice A6 kp c6] 131 (0, 0)) ∧ W'.heap[B4]? = some (.cells #[.int .i64 (N : Int)] 2 (0, 0)) ∧ St2 w (W'.setCell ⟨B8, 0, none⟩ (.slice A' (kp + 1) c')) B4 B8 N k (kp + 1) A5 c5 A' c' := by
  have hne : ∀ q, Fo (.slice A6 kp c6) q → ∃ cs, W.heap[q]? = some (.cells cs 42 (0, 0)) := fun q hq => own_foP l1 hq
  have hx8 := blk_ch h.b8 hc (fun hq => by obtain ⟨cs, h1⟩ := hne _ hq; exact blk_ne h.b8 h1 (by decide) rfl)
  have hx4 := blk_ch h.b4 hc (fun hq => by obtain ⟨cs, h1⟩ := hne _ hq; exact blk_ne h.b4 h1 (by decide) rfl)
  have hs := lx_far h.s hc (fun q h1 h2 => h.d q h1 h2) (fun q hq ds hd => by obtain ⟨cs, h1⟩ := hne q hq; exact blk_ne h1 hd (by decide) rfl)
  have hp := lx_grow l1 l2 hv hm ho' hc hf h.bel.size
  have hbl := below_ch h.bel hc (fun q hq => (l1.lt q hq).1) h.bel.size
  have h2 := ch_set W' B8 0 (.slice A' (kp + 1) c')
  have hty : ∀ q, q = B8 → ∀ (T : Nat) ds, T ≠ 131 → W'.heap[q]? = some (.cells ds T (0, 0)) → False := fun q e T ds hT hd => by rw [e] at hd; exact blk_ne hx8 hd (fun e => hT e.symm) rfl
  refine ⟨hx8, hx4, ⟨lx_far hs h2 (fun q h1 e => by obtain ⟨us2, m1, _⟩ := hs; obtain ⟨ds, hd⟩ := own_foP m1 h1; exact hty q e _ ds (by decide) hd) (fun q e ds hd => hty q e _ ds (by decide) hd), by rw [hst]; exact lx_far hp h2 (fun q h1 e => by obtain ⟨us2, m1, _⟩ := hp; obtain ⟨ds, hd⟩ := own_foP m1 h1; exact hty q e _ ds (by decide) hd) (fun q e ds hd => hty q e _ ds (by decide) hd), fun q h1 h3 => ?_, blk_ch hx4 h2 (fun e => hty B4 e _ _ (by decide) hx4), by simpa using blk_set hx8 0 (.slice A' (kp + 1) c'), below_ch hbl h2 (fun q e => by rw [show q = B8 from e]; exact h.hb) hbl.size, h.hb⟩⟩
  rcases hf q h3 with h4 | h4
  · exact h.d q h1 h4
  · have := (lx_lt h.s q h1).2; omega
theorem vars_bound1 {cs : List Cmd} (h : okC cs = true) {xs : List Int} (hx : ∀ x, x ∈ xs ↔ x ∈ varsL cs) {k : Nat} : 1 ≤ topV 1 (xs.take k) ∧ topV 1 (xs.take k) ≤ 6 :=
  ⟨(topV_ge 1 _).1, topV_le 1 _ 6 (by omega) (fun v hv => by have := vars_bound h v ((hx v).1 (List.mem_of_mem_take hv)); omega)⟩
theorem top1_step {xs : List Int} {k : Nat} {v : Int} (h : xs[k]? = some v) : topV 1 (xs.take (k + 1)) = max (topV 1 (xs.take k)) (v + 1) := by
  rw [List.take_add_one, h]
  simp only [Option.toList_some, topV_app]
  rfl
set_option maxHeartbeats 16000000 in
set_option maxRecDepth 100000 in
theorem oneVariable_any (w : World) (A : Option Addr) (n c : Nat) (cs : List Cmd) (hr : RdC w A n cs) (hok : okC cs = true) (hn : n ≤ 80) (hv : 2 ≤ topV 0 (varsL cs)) : Calls Tryz.prog 59 #[.slice A n c] w (OvP w (oneW cs)) := by
  have HR := Lib.hid hr; have HOK := Lib.hid hok; have HNN := Lib.hid hn
  have HL : Hid (cs.length = n) := Lib.hid hr.len
  obtain ⟨N, hN⟩ : ∃ N : Nat, topV 0 (varsL cs) = (N : Int) := ⟨(topV 0 (varsL cs)).toNat, by omega⟩
  have HN : Hid (2 ≤ N ∧ N ≤ 6) := Lib.hid ⟨by omega, by have := topV_bound hok (m := 0) (by omega); omega⟩
  have HT1 : Hid (topV 1 (varsL cs) = (N : Int)) := Lib.hid (by rw [topV_one (m := 0) (by omega) (by omega), hN])
  have HEQ : Hid (oneN N cs = oneW cs) := Lib.hid (by unfold oneW; rw [hN]; rfl)
  have HVX : Hid (∀ x ∈ cs, x.k = 0 → x.v < N) := Lib.hid (fun x hx hk => by
    have h1 := (topV_ge 0 (varsL cs)).2 x.v (by simp only [varsL, List.mem_flatMap]; exact ⟨x, hx, by simp [varsC, hk]⟩)
    omega)
  have HNE : Hid (varsL cs ≠ []) := Lib.hid (fun e => by rw [e] at hv; simp [topV] at hv)
  obtain ⟨w1, hw1⟩ : ∃ w1, w1 = w.alloc (.cells #[.int .i64 1] 2) := ⟨_, rfl⟩
  have hb1 : Below w.heap.size w w1 := by rw [hw1]; exact below_new _ _
  have HX1 : Hid (w1.heap[w.heap.size]? = some (.cells #[.int .i64 1] 2 (0, 0))) := Lib.hid (by rw [hw1]; exact box_new _ _ _)
  have HS1 : Hid (w1.heap.size = w.heap.size + 1) := Lib.hid (by rw [hw1]; simp)
  have HB1 := Lib.hid hb1
  have HWV := Lib.hid (whileVariables_any w1 A n c cs (hr.below hb1 (Nat.le_refl _)) hok hn HNE.out)
  clear hr hok hn hv hN hb1
  go_enter Tryz.func59, Tryz.ntmps59
  go_upto_region 2 with fail
  rw [← hw1]
  clear hw1
  go_wp2_with (go_at_call 85
               refine HWV.out.mono ?_
               rintro e w2 ⟨A1, m1, c1, xs, rfl, ho1, hm1, hme, hb2⟩
               have HO1 := Lib.hid ho1; have HM1 := Lib.hid hm1; have HME := Lib.hid hme
               have HB2 : Hid (Below w.heap.size w w2) := Lib.hid (bqcP hb2 HB1.out)
               have HX2 := Lib.hid (blk_bel HX1.out hb2)
               clear ho1 hm1 hme hb2)
  go_loopw [15] (fun u wr => ∃ (i : Nat) (m0 : Int), i ≤ m1 ∧ u = .int .i64 (i : Int) ∧ Hid (m0 = topV 1 (xs.take i)) ∧ Hid (wr.heap[w.heap.size]? = some (.cells #[.int .i64 m0] 2 (0, 0))) ∧ Hid (wr.ownsRow w1.heap.size 2 1 (.slice A1 m1 c1) m1 (ints xs)) ∧ Hid (Below w.heap.size w wr)) (fun u _ => m1 - (intOf u).toNat)
  case atStart => exact ⟨0, 1, Nat.zero_le _, rfl, Lib.hid rfl, HX2, HO1, HB2⟩
  case round =>
    clear HX2 HO1 HB2
    obtain ⟨i, m0, hi, rfl, HM0, HX, HO, HB⟩ := hrel
    have hbd := vars_bound1 HOK.out HME.out (k := i)
    rw [← HM0.out] at hbd
    have HBD := Lib.hid hbd
    have hm9 := HM1.out
    clear hbd
    by_cases hlt : i < m1
    · have hlt' : (i : Int) < (m1 : Int) := by omega
      obtain ⟨v, hv⟩ := get_some (xs := xs) (k := i) (by have h := HO.out.1; simp at h; omega)
      obtain ⟨g, rfl, hg, hgs, q0, _⟩ := own_get HO.out (k := i) (u := .int .i64 v) (by simp [ints, hv])
      have hvb := vars_bound HOK.out v ((HME.out v).1 (List.mem_of_getElem? hv))
      have HST := Lib.hid (top1_step hv)
      have HW1 : Hid (IntKind.i64.wrap (v + 1) = v + 1) := Lib.hid (IntWalk.i64_in _ (by omega))
      have HGN : Hid (g ≠ w.heap.size) := Lib.hid (by have := HS1.out; omega)
      have x0 := blk_cell HX.out 0 rfl
      have f0 := blk_free HX.out 0
      have hw9 := HW1.out
      have hi0 : (0 : Int) ≤ (i : Int) := by omega
      clear hv hvb hg
      go_wp2_with fail
      go_roundw
      case rel =>
        have hc := ch_set wr w.heap.size 0 (.int .i64 (max m0 (v + 1)))
        exact ⟨i + 1, max m0 (v + 1), by omega, by go_num, Lib.hid (by rw [HST.out, HM0.out]), Lib.hid (by simpa using blk_set HX.out 0 (.int .i64 (max m0 (v + 1)))), Lib.hid (own_ch HO.out hc (fun q hq e => by
          have e1 : g = q := by simpa [Fo, Value.ownBlock] using hq
          have e2 : q = w.heap.size := e
          exact HGN.out (e1.trans e2))), Lib.hid (below_ch HB.out hc (fun q e => by rw [show q = w.heap.size from e]; exact Nat.le_refl _) HB.out.size)⟩
      case measure => simp [intOf]; omega
    · obtain rfl : i = m1 := by omega
      have HMN : Hid (m0 = (N : Int)) := Lib.hid (by rw [HM0.out, List.take_of_length_le (by have h := HO.out.1; simp at h; omega), topV_same HME.out, HT1.out])
      have hx := HX.out
      rw [HMN.out] at hx
      have HX3 := Lib.hid hx
      have x0 := blk_cell HX3.out 0 rfl
      have j1 : ((N : Int) == 1) = false := by rw [beq_eq_false_iff_ne]; have := HN.out; omega
      have j2 : ¬ (N : Int) = 1 := by have := HN.out; omega
      clear hx HX HM0 HBD
      obtain ⟨w5, hw5⟩ : ∃ w5, w5 = ((wr.alloc (.cells #[] 42)).alloc (.cells #[] 42)).alloc (.cells #[.slice (some ⟨wr.heap.size + 1, 0, none⟩) 0 0] 131) := ⟨_, rfl⟩
      obtain ⟨B8, hB8⟩ : ∃ B8, B8 = wr.heap.size + 1 + 1 := ⟨_, rfl⟩
      have HS5 : Hid (St2 w w5 w.heap.size B8 N 0 0 (some ⟨wr.heap.size, 0, none⟩) 0 (some ⟨wr.heap.size + 1, 0, none⟩) 0) := Lib.hid (by
        have ba := below_new wr (.cells #[] 42)
        have bb := below_new (wr.alloc (.cells #[] 42)) (.cells #[] 42)
        have bc := below_new ((wr.alloc (.cells #[] 42)).alloc (.cells #[] 42)) (.cells #[.slice (some ⟨wr.heap.size + 1, 0, none⟩) 0 0] 131)
        have oa := own_lit wr #[] 0 42 rfl (by omega)
        have ob := own_lit (wr.alloc (.cells #[] 42)) #[] 0 42 rfl (by omega)
        have xb := box_new ((wr.alloc (.cells #[] 42)).alloc (.cells #[] 42)) #[.slice (some ⟨wr.heap.size + 1, 0, none⟩) 0 0] 131
        simp only [World.size_alloc] at ob xb
        rw [← hw5, ← hB8] at xb
        rw [← hw5] at bc
        refine ⟨⟨[], own_base (own_below (own_below oa bb (Nat.le_refl _)) bc (Nat.le_refl _)) HB.out.size, ⟨by simp, by simp⟩⟩, ⟨[], own_base (own_below ob bc (Nat.le_refl _)) (by have := HB.out.size; omega), ⟨by simp, by simp⟩⟩, fun q h1 h2 => ?_, blk_bel (blk_bel (blk_bel HX3.out ba) bb) bc, xb, bqcP bc (bqcP bb (bqcP ba HB.out)), by have := HB.out.size; omega⟩
        simp [Fo, Value.ownBlock] at h1 h2
        omega)
      clear hm9
      go_upto_region 10 with fail
      rw [← hw5, ← hB8]
      clear hw5 hB8 HB x0 j1 j2 HO HX3
      have x0 := blk_cell HS5.out.b4 0 rfl
      go_wp2_with fail
      clear x0
      go_loopw [7, 31] (fun v u wr => ∃ (k : Nat) (A5 : Option Addr) (c5 : Nat) (A6 : Option Addr) (c6 : Nat), k ≤ N ∧ u = .int .i64 (k : Int) ∧ v = .slice A5 k c5 ∧ Hid (St2 w wr w.heap.size B8 N k k A5 c5 A6 c6)) (fun _ u _ => N - (intOf u).toNat)
      case atStart => exact ⟨0, _, _, _, _, Nat.zero_le _, rfl, rfl, HS5⟩
      case round =>
        as_aux_lemma =>
        clear HS5
        obtain ⟨k, A5, c5, A6, c6, hk, rfl, rfl, HS⟩ := hrel
        by_cases hlt : k < N
        · have hlt' : (k : Int) < (N : Int) := by omega
          have HPST := Lib.hid (places_step hlt)
          have hn6 := HN.out.2
          have hb6 := below_new wr (.cells #[.int .i64 0, .int .i64 0] 110)
          by_cases hk0 : k = 0
          · have HSST : Hid ((startE N).take (k + 1) = (startE N).take k ++ [[(1, 0)]]) := Lib.hid (by rw [hk0]; exact (start_one (by omega)))
            clear hb6
            have hb6 := below_new wr (.cells #[.int .i64 1, .int .i64 0] 110)
            obtain ⟨w6, hw6⟩ : ∃ w6, w6 = wr.alloc (.cells #[.int .i64 1, .int .i64 0] 110) := ⟨_, rfl⟩
            rw [← hw6] at hb6
            have HS6 := Lib.hid (HS.out.below hb6)
            have HX10 : Hid (w6.heap[wr.heap.size]? = some (.cells #[.int .i64 1, .int .i64 0] 110 (0, 0))) := Lib.hid (by rw [hw6]; exact box_new _ _ _)
            have i1 : ((k : Int) == 0) = true := by rw [beq_iff_eq]; omega
            clear hb6
            go_upto_region 16 with fail
            rw [← hw6]
            clear hw6 i1 hk0
            have hbA := below_new w6 (.cells #[.int .i64 1, .int .i64 0] 110)
            have hbB := below_new (w6.alloc (.cells #[.int .i64 1, .int .i64 0] 110)) (.cells #[.slice (some ⟨w6.heap.size, 0, none⟩) 1 1] 42)
            have hbAB : Below w6.heap.size w6 ((w6.alloc (.cells #[.int .i64 1, .int .i64 0] 110)).alloc (.cells #[.slice (some ⟨w6.heap.size, 0, none⟩) 1 1] 42)) := bqcP hbB hbA
            have HSA : Hid (St2 w ((w6.alloc (.cells #[.int .i64 1, .int .i64 0] 110)).alloc (.cells #[.slice (some ⟨w6.heap.size, 0, none⟩) 1 1] 42)) w.heap.size B8 N k k A5 c5 A6 c6) := Lib.hid (HS6.out.below hbAB)
            obtain ⟨us, l1, l2⟩ := HSA.out.s
            have HRS := Lib.hid l1; have HIS := Lib.hid l2
            have HLV : Hid (((w6.alloc (.cells #[.int .i64 1, .int .i64 0] 110)).alloc (.cells #[.slice (some ⟨w6.heap.size, 0, none⟩) 1 1] 42)).ownsRow w6.heap.size 110 2 (.slice (some ⟨w6.heap.size, 0, none⟩) 1 1) 1 (ints (eNums [(1, 0)]))) := Lib.hid (ownN_below (lit_elG w6 1 0) hbB (Nat.le_refl _))
            have HRL : Hid (Rd ((w6.alloc (.cells #[.int .i64 1, .int .i64 0] 110)).alloc (.cells #[.slice (some ⟨w6.heap.size, 0, none⟩) 1 1] 42)) (some ⟨w6.heap.size + 1, 0, none⟩) 1 [.slice (some ⟨w6.heap.size, 0, none⟩) 1 1]) := Lib.hid (by have h := own_rd (own_lit (w6.alloc (.cells #[.int .i64 1, .int .i64 0] 110)) #[.slice (some ⟨w6.heap.size, 0, none⟩) 1 1] 1 42 rfl (by omega)); simpa using h)
            have HXA := Lib.hid (blk_bel HX10.out hbAB)
            have e0 := And.intro (blk_cell HX10.out 0 rfl) (And.intro (blk_cell HX10.out 1 rfl) (blk_cell HS6.out.b4 0 rfl))
            have e1 := And.intro (blk_cell (blk_bel HX10.out hbA) 0 rfl) (And.intro (blk_cell (blk_bel HX10.out hbA) 1 rfl) (blk_cell (HS6.out.below hbA).b4 0 rfl))
            have e2 := And.intro (blk_cell HXA.out 0 rfl) (And.intro (blk_cell HXA.out 1 rfl) (blk_cell HSA.out.b4 0 rfl))
            have g0 := blk_cell HS6.out.b8 0 rfl
            have g1 := blk_cell (HS6.out.below hbA).b8 0 rfl
            have g2 := blk_cell HSA.out.b8 0 rfl
            have HKK : Hid (k ≤ 1000000000) := Lib.hid (by have := HN.out; omega)
            have HPL : Hid ((placeE k N).length ≤ 100) := Lib.hid (by have := placeE_len k N; have := HN.out; omega)
            have HKN : Hid (k ≤ 80 ∧ N ≤ 100) := Lib.hid (by have := HN.out; omega)
            clear hbA hbB hbAB l1 l2
            refine wp_region_held_drew (S := fun w' => w'.cell? ⟨wr.heap.size, 0, none⟩ = some (.int .i64 1) ∧ w'.cell? ⟨wr.heap.size, 1, none⟩ = some (.int .i64 0) ∧ w'.cell? ⟨w.heap.size, 0, none⟩ = some (.int .i64 (N : Int))) (by kernel_rfl) ?_ (fun hHeld => ?_)
            · (first | exact e0 | exact e1 | exact e2 | exact e3 | exact e4 | exact e5 | exact e6 | exact e7)
            refine wpAnyH_take (i := 0) (oi := _) (v := ?_) rfl (by kernel_rfl) (by kernel_rfl) (by kernel_rfl) (fun _ _ _ h => h) (Or.inl ⟨by rfl, ?_⟩) (by assumption) ?_
            rotate_left
            · intro wS hSw
              (try dsimp only at hSw)
              simp only [List.getElem_toArray, List.getElem_cons_succ, List.getElem_cons_zero]
              first | (go_simp; done) | (go_simp; with_reducible rfl)
            try simp only [Act.put, List.setIfInBounds_toArray, List.set_cons_zero, List.set_cons_succ, List.getElem_toArray, List.getElem_cons_succ, List.getElem_cons_zero]
            refine wpAnyH_take (i := 1) (oi := _) (v := ?_) rfl (by kernel_rfl) (by kernel_rfl) (by kernel_rfl) (fun _ _ _ h => h) (Or.inl ⟨by rfl, ?_⟩) (by assumption) ?_
            rotate_left
            · intro wS hSw
              (try dsimp only at hSw)
              simp only [List.getElem_toArray, List.getElem_cons_succ, List.getElem_cons_zero]
              first | (go_simp; done) | (go_simp; with_reducible rfl)
            try simp only [Act.put, List.setIfInBounds_toArray, List.set_cons_zero, List.set_cons_succ, List.getElem_toArray, List.getElem_cons_succ, List.getElem_cons_zero]
            refine wpAnyH_take (i := 6) (oi := _) (v := ?_) rfl (by kernel_rfl) (by kernel_rfl) (by kernel_rfl) (fun _ _ _ h => h) (Or.inl ⟨by rfl, ?_⟩) (by assumption) ?_
            rotate_left
            · intro wS hSw
              (try dsimp only at hSw)
              simp only [List.getElem_toArray, List.getElem_cons_succ, List.getElem_cons_zero]
              first | (go_simp; done) | (go_simp; with_reducible rfl)
            try simp only [Act.put, List.setIfInBounds_toArray, List.set_cons_zero, List.set_cons_succ, List.getElem_toArray, List.getElem_cons_succ, List.getElem_cons_zero]
            refine wpAnyH_take (i := 7) (oi := _) (v := ?_) rfl (by kernel_rfl) (by kernel_rfl) (by kernel_rfl) (fun _ _ _ h => h) (Or.inl ⟨by rfl, ?_⟩) (by assumption) ?_
            rotate_left
            · intro wS hSw
              (try dsimp only at hSw)
              simp only [List.getElem_toArray, List.getElem_cons_succ, List.getElem_cons_zero]
              first | (go_simp; done) | (go_simp; with_reducible rfl)
            try simp only [Act.put, List.setIfInBounds_toArray, List.set_cons_zero, List.set_cons_succ, List.getElem_toArray, List.getElem_cons_succ, List.getElem_cons_zero]
            refine wpAnyH_ready (rs := [2, 5]) (by kernel_rfl) (by simp) ?_
            refine AllReadyH.cons (o := _) rfl (fun K hK => ?_) ?_
            · skip
              try simp only [List.getElem_toArray, List.getElem_cons_succ, List.getElem_cons_zero]
              go_simp
              refine hK.out _ _ ?_ (fun hHeld => ?_)
              · (first | exact e0 | exact e1 | exact e2 | exact e3 | exact e4 | exact e5 | exact e6 | exact e7)
              clear hK K
              try simp only [Act.put, List.setIfInBounds_toArray, List.set_cons_zero, List.set_cons_succ, List.getElem_toArray, List.getElem_cons_succ, List.getElem_cons_zero]
              refine wpAnyH_ready (rs := [3, 5]) (by kernel_rfl) (by simp) ?_
              refine AllReadyH.cons (o := _) rfl (fun K hK => ?_) ?_
              · skip
                try simp only [List.getElem_toArray, List.getElem_cons_succ, List.getElem_cons_zero]
                go_simp
                refine hK.out _ _ ?_ (fun hHeld => ?_)
                · (first | exact e0 | exact e1 | exact e2 | exact e3 | exact e4 | exact e5 | exact e6 | exact e7)
                clear hK K
                try simp only [Act.put, List.setIfInBounds_toArray, List.set_cons_zero, List.set_cons_succ, List.getElem_toArray, List.getElem_cons_succ, List.getElem_cons_zero]
                refine wpAnyH_ready (rs := [4, 5]) (by kernel_rfl) (by simp) ?_
                refine AllReadyH.cons (o := _) rfl (fun K hK => ?_) ?_
                · skip
                  try simp (config := { proj := false }) only [List.getElem_toArray, List.getElem_cons_succ, List.getElem_cons_zero]
                  refine step_appO1 eltXS (by rfl) _ _ (by rfl) _ w.heap.size A5 k c5 us (by rfl) (by exact HRS.out) (.slice (some ⟨w6.heap.size, 0, none⟩) 1 1) (by rfl) (some ⟨w6.heap.size + 1, 0, none⟩) 1 (by rfl) (by exact HRL.out) (by exact HKK.out) ?_
                  intro A9 c9 w7 ho9 hc9 hf9
                  have hc9b : Ch (Fo (.slice A5 k c5)) ((w6.alloc (.cells #[.int .i64 1, .int .i64 0] 110)).alloc (.cells #[.slice (some ⟨w6.heap.size, 0, none⟩) 1 1] 42)) w7 := ⟨hc9.os, hc9.tape, hc9.output, hc9.size, hc9.block⟩
                  have HS7 := Lib.hid (HSA.out.addS HRS.out HIS.out HLV.out (by omega) HSST.out ho9 hc9b hf9)
                  have hx7 := blk_ch HXA.out hc9b (fun hq => by obtain ⟨cs, h1⟩ := own_foP HRS.out hq; exact blk_ne HXA.out h1 (by decide) rfl)
                  have HX7 := Lib.hid hx7
                  have e3 := And.intro (blk_cell HX7.out 0 rfl) (And.intro (blk_cell HX7.out 1 rfl) (blk_cell HS7.out.b4 0 rfl))
                  have g3 := blk_cell HS7.out.b8 0 rfl
                  clear ho9 hc9 hf9 hc9b hx7
                  refine hK.out _ _ ?_ (fun hHeld => ?_)
                  · (first | exact e0 | exact e1 | exact e2 | exact e3 | exact e4 | exact e5 | exact e6 | exact e7)
                  clear hK K
                  try simp only [Act.put, List.setIfInBounds_toArray, List.set_cons_zero, List.set_cons_succ, List.getElem_toArray, List.getElem_cons_succ, List.getElem_cons_zero]
                  refine wpAnyH_ready (rs := [5, 8]) (by kernel_rfl) (by simp) ?_
                  refine AllReadyH.cons (o := _) rfl (fun K hK => ?_) ?_
                  · skip
                    try simp only [List.getElem_toArray, List.getElem_cons_succ, List.getElem_cons_zero]
                    go_simp
                    refine hK.out _ _ ?_ (fun hHeld => ?_)
                    · (first | exact e0 | exact e1 | exact e2 | exact e3 | exact e4 | exact e5 | exact e6 | exact e7)
                    clear hK K
                    try simp only [Act.put, List.setIfInBounds_toArray, List.set_cons_zero, List.set_cons_succ, List.getElem_toArray, List.getElem_cons_succ, List.getElem_cons_zero]
                    refine wpAnyH_ready (rs := [8]) (by kernel_rfl) (by simp) ?_
                    refine AllReadyH.cons (o := _) rfl (fun K hK => ?_) AllReadyH.nil
                    try simp only [List.getElem_toArray, List.getElem_cons_succ, List.getElem_cons_zero]
                    go_simp
                    go_at_call 87
                    refine (placeOf_any _ k N HKN.out.1 HKN.out.2).mono ?_
                    rintro e w8 ⟨A7, n7, c7, rfl, ho7, hb8⟩
                    have HS8 := Lib.hid (HS7.out.below hb8)
                    have hb83 := below_new w8 (.cells #[.slice A7 n7 c7] 42)
                    have HS83 : Hid (St2 w (w8.alloc (.cells #[.slice A7 n7 c7] 42)) w.heap.size B8 N (k + 1) k A9 c9 A6 c6) := Lib.hid (HS8.out.below hb83)
                    obtain ⟨vs, m1, m2⟩ := HS83.out.p
                    have HRP := Lib.hid m1; have HIP := Lib.hid m2
                    have HV83 := Lib.hid (ownN_below ho7 hb83 (Nat.le_refl _))
                    have HN7 : Hid (n7 ≤ 100) := Lib.hid (by have := own_el ho7; have := HPL.out; omega)
                    have HRM : Hid (Rd (w8.alloc (.cells #[.slice A7 n7 c7] 42)) (some ⟨w8.heap.size, 0, none⟩) 1 [.slice A7 n7 c7]) := Lib.hid (own_rd (own_lit w8 #[.slice A7 n7 c7] 1 42 rfl (by omega)))
                    have hx8 := blk_bel HX7.out hb8
                    have HX83 := Lib.hid (blk_bel hx8 hb83)
                    have e4 := And.intro (blk_cell hx8 0 rfl) (And.intro (blk_cell hx8 1 rfl) (blk_cell HS8.out.b4 0 rfl))
                    have e5 := And.intro (blk_cell HX83.out 0 rfl) (And.intro (blk_cell HX83.out 1 rfl) (blk_cell HS83.out.b4 0 rfl))
                    have g4 := blk_cell HS8.out.b8 0 rfl
                    have g5 := blk_cell HS83.out.b8 0 rfl
                    clear ho7 hb8 hb83 m1 m2 hx8
                    (try go_wp2_with fail)
                    refine hK.out _ _ ?_ (fun hHeld => ?_)
                    · (first | exact e0 | exact e1 | exact e2 | exact e3 | exact e4 | exact e5 | exact e6 | exact e7)
                    clear hK K
                    try simp only [Act.put, List.setIfInBounds_toArray, List.set_cons_zero, List.set_cons_succ, List.getElem_toArray, List.getElem_cons_succ, List.getElem_cons_zero]
                    refine wpAnyH_ready (rs := [9]) (by kernel_rfl) (by simp) ?_
                    refine AllReadyH.cons (o := _) rfl (fun K hK => ?_) AllReadyH.nil
                    try simp only [List.getElem_toArray, List.getElem_cons_succ, List.getElem_cons_zero]
                    go_simp
                    refine hK.out _ _ ?_ (fun hHeld => ?_)
                    · (first | exact e0 | exact e1 | exact e2 | exact e3 | exact e4 | exact e5 | exact e6 | exact e7)
                    clear hK K
                    try simp only [Act.put, List.setIfInBounds_toArray, List.set_cons_zero, List.set_cons_succ, List.getElem_toArray, List.getElem_cons_succ, List.getElem_cons_zero]
                    refine wpAnyH_ready (rs := [10]) (by kernel_rfl) (by simp) ?_
                    refine AllReadyH.cons (o := _) rfl (fun K hK => ?_) AllReadyH.nil
                    try simp (config := { proj := false }) only [List.getElem_toArray, List.getElem_cons_succ, List.getElem_cons_zero]
                    refine step_appO1 eltXS (by rfl) _ _ (by rfl) _ w.heap.size A6 k c6 vs (by rfl) (by exact HRP.out) (.slice A7 n7 c7) (by rfl) (some ⟨w8.heap.size, 0, none⟩) 1 (by rfl) (by exact HRM.out) (by exact HKK.out) ?_
                    intro A10 c10 w9 ho10 hc10 hf10
                    obtain ⟨hx8, hx4, hst⟩ := HS83.out.addP HRP.out HIP.out HV83.out (by have := HN7.out; omega) HPST.out ho10 hc10 hf10
                    have HS9 := Lib.hid hst
                    have hxx := blk_ch HX83.out hc10 (fun hq => by obtain ⟨cs, h1⟩ := own_foP HRP.out hq; exact blk_ne HX83.out h1 (by decide) rfl)
                    have e6 := And.intro (blk_cell hxx 0 rfl) (And.intro (blk_cell hxx 1 rfl) (blk_cell hx4 0 rfl))
                    have hxy := blk_ch hxx (ch_set w9 B8 0 (.slice A10 (k + 1) c10)) (fun e => blk_ne hxx hx8 (by decide) e)
                    have e7 := And.intro (blk_cell hxy 0 rfl) (And.intro (blk_cell hxy 1 rfl) (blk_cell hst.b4 0 rfl))
                    have g6 := blk_cell hx8 0 rfl
                    have f6 := blk_free hx8 0
                    clear ho10 hc10 hf10
                    refine hK.out _ _ ?_ (fun hHeld => ?_)
                    · (first | exact e0 | exact e1 | exact e2 | exact e3 | exact e4 | exact e5 | exact e6 | exact e7)
                    clear hK K
                    try simp only [Act.put, List.setIfInBounds_toArray, List.set_cons_zero, List.set_cons_succ, List.getElem_toArray, List.getElem_cons_succ, List.getElem_cons_zero]
                    refine wpAnyH_take (i := 11) (oi := _) (v := ?_) rfl (by kernel_rfl) (by kernel_rfl) (by kernel_rfl) (fun _ _ _ h => h) (Or.inl ⟨by rfl, ?_⟩) (by assumption) ?_
                    rotate_left
                    · intro wS hSw
                      (try dsimp only at hSw)
                      simp only [List.getElem_toArray, List.getElem_cons_succ, List.getElem_cons_zero]
                      first | (go_simp; done) | (go_simp; with_reducible rfl)
                    try simp only [Act.put, List.setIfInBounds_toArray, List.set_cons_zero, List.set_cons_succ, List.getElem_toArray, List.getElem_cons_succ, List.getElem_cons_zero]
                    refine wpAnyH_ready (rs := [12]) (by kernel_rfl) (by simp) ?_
                    refine AllReadyH.cons (o := _) rfl (fun K hK => ?_) AllReadyH.nil
                    try simp only [List.getElem_toArray, List.getElem_cons_succ, List.getElem_cons_zero]
                    go_simp
                    refine hK.out _ _ ?_ (fun hHeld => ?_)
                    · (first | exact e0 | exact e1 | exact e2 | exact e3 | exact e4 | exact e5 | exact e6 | exact e7)
                    clear hK K
                    try simp only [Act.put, List.setIfInBounds_toArray, List.set_cons_zero, List.set_cons_succ, List.getElem_toArray, List.getElem_cons_succ, List.getElem_cons_zero]
                    refine wpAnyH_done (by kernel_rfl) ?_ _
                    go_wp2_with fail
                    go_roundw
                    case rel => exact ⟨k + 1, A9, c9, A10, c10, by omega, by go_num, rfl, HS9⟩
                    case measure => simp [intOf] <;> omega
                  refine AllReadyH.cons (o := _) rfl (fun K hK => ?_) AllReadyH.nil
                  try simp only [List.getElem_toArray, List.getElem_cons_succ, List.getElem_cons_zero]
                  go_simp
                  go_at_call 87
                  refine (placeOf_any _ k N HKN.out.1 HKN.out.2).mono ?_
                  rintro e w8 ⟨A7, n7, c7, rfl, ho7, hb8⟩
                  have HS8 := Lib.hid (HS7.out.below hb8)
                  have hb83 := below_new w8 (.cells #[.slice A7 n7 c7] 42)
                  have HS83 : Hid (St2 w (w8.alloc (.cells #[.slice A7 n7 c7] 42)) w.heap.size B8 N (k + 1) k A9 c9 A6 c6) := Lib.hid (HS8.out.below hb83)
                  obtain ⟨vs, m1, m2⟩ := HS83.out.p
                  have HRP := Lib.hid m1; have HIP := Lib.hid m2
                  have HV83 := Lib.hid (ownN_below ho7 hb83 (Nat.le_refl _))
                  have HN7 : Hid (n7 ≤ 100) := Lib.hid (by have := own_el ho7; have := HPL.out; omega)
                  have HRM : Hid (Rd (w8.alloc (.cells #[.slice A7 n7 c7] 42)) (some ⟨w8.heap.size, 0, none⟩) 1 [.slice A7 n7 c7]) := Lib.hid (own_rd (own_lit w8 #[.slice A7 n7 c7] 1 42 rfl (by omega)))
                  have hx8 := blk_bel HX7.out hb8
                  have HX83 := Lib.hid (blk_bel hx8 hb83)
                  have e4 := And.intro (blk_cell hx8 0 rfl) (And.intro (blk_cell hx8 1 rfl) (blk_cell HS8.out.b4 0 rfl))
                  have e5 := And.intro (blk_cell HX83.out 0 rfl) (And.intro (blk_cell HX83.out 1 rfl) (blk_cell HS83.out.b4 0 rfl))
                  have g4 := blk_cell HS8.out.b8 0 rfl
                  have g5 := blk_cell HS83.out.b8 0 rfl
                  clear ho7 hb8 hb83 m1 m2 hx8
                  (try go_wp2_with fail)
                  refine hK.out _ _ ?_ (fun hHeld => ?_)
                  · (first | exact e0 | exact e1 | exact e2 | exact e3 | exact e4 | exact e5 | exact e6 | exact e7)
                  clear hK K
                  try simp only [Act.put, List.setIfInBounds_toArray, List.set_cons_zero, List.set_cons_succ, List.getElem_toArray, List.getElem_cons_succ, List.getElem_cons_zero]
                  refine wpAnyH_ready (rs := [5, 9]) (by kernel_rfl) (by simp) ?_
                  refine AllReadyH.cons (o := _) rfl (fun K hK => ?_) ?_
                  · skip
                    try simp only [List.getElem_toArray, List.getElem_cons_succ, List.getElem_cons_zero]
                    go_simp
                    refine hK.out _ _ ?_ (fun hHeld => ?_)
                    · (first | exact e0 | exact e1 | exact e2 | exact e3 | exact e4 | exact e5 | exact e6 | exact e7)
                    clear hK K
                    try simp only [Act.put, List.setIfInBounds_toArray, List.set_cons_zero, List.set_cons_succ, List.getElem_toArray, List.getElem_cons_succ, List.getElem_cons_zero]
                    refine wpAnyH_ready (rs := [9]) (by kernel_rfl) (by simp) ?_
                    refine AllReadyH.cons (o := _) rfl (fun K hK => ?_) AllReadyH.nil
                    try simp only [List.getElem_toArray, List.getElem_cons_succ, List.getElem_cons_zero]
                    go_simp
                    refine hK.out _ _ ?_ (fun hHeld => ?_)
                    · (first | exact e0 | exact e1 | exact e2 | exact e3 | exact e4 | exact e5 | exact e6 | exact e7)
                    clear hK K
                    try simp only [Act.put, List.setIfInBounds_toArray, List.set_cons_zero, List.set_cons_succ, List.getElem_toArray, List.getElem_cons_succ, List.getElem_cons_zero]
                    refine wpAnyH_ready (rs := [10]) (by kernel_rfl) (by simp) ?_
                    refine AllReadyH.cons (o := _) rfl (fun K hK => ?_) AllReadyH.nil
                    try simp (config := { proj := false }) only [List.getElem_toArray, List.getElem_cons_succ, List.getElem_cons_zero]
                    refine step_appO1 eltXS (by rfl) _ _ (by rfl) _ w.heap.size A6 k c6 vs (by rfl) (by exact HRP.out) (.slice A7 n7 c7) (by rfl) (some ⟨w8.heap.size, 0, none⟩) 1 (by rfl) (by exact HRM.out) (by exact HKK.out) ?_
                    intro A10 c10 w9 ho10 hc10 hf10
                    obtain ⟨hx8, hx4, hst⟩ := HS83.out.addP HRP.out HIP.out HV83.out (by have := HN7.out; omega) HPST.out ho10 hc10 hf10
                    have HS9 := Lib.hid hst
                    have hxx := blk_ch HX83.out hc10 (fun hq => by obtain ⟨cs, h1⟩ := own_foP HRP.out hq; exact blk_ne HX83.out h1 (by decide) rfl)
                    have e6 := And.intro (blk_cell hxx 0 rfl) (And.intro (blk_cell hxx 1 rfl) (blk_cell hx4 0 rfl))
                    have hxy := blk_ch hxx (ch_set w9 B8 0 (.slice A10 (k + 1) c10)) (fun e => blk_ne hxx hx8 (by decide) e)
                    have e7 := And.intro (blk_cell hxy 0 rfl) (And.intro (blk_cell hxy 1 rfl) (blk_cell hst.b4 0 rfl))
                    have g6 := blk_cell hx8 0 rfl
                    have f6 := blk_free hx8 0
                    clear ho10 hc10 hf10
                    refine hK.out _ _ ?_ (fun hHeld => ?_)
                    · (first | exact e0 | exact e1 | exact e2 | exact e3 | exact e4 | exact e5 | exact e6 | exact e7)
                    clear hK K
                    try simp only [Act.put, List.setIfInBounds_toArray, List.set_cons_zero, List.set_cons_succ, List.getElem_toArray, List.getElem_cons_succ, List.getElem_cons_zero]
                    refine wpAnyH_take (i := 11) (oi := _) (v := ?_) rfl (by kernel_rfl) (by kernel_rfl) (by kernel_rfl) (fun _ _ _ h => h) (Or.inl ⟨by rfl, ?_⟩) (by assumption) ?_
                    rotate_left
                    · intro wS hSw
                      (try dsimp only at hSw)
                      simp only [List.getElem_toArray, List.getElem_cons_succ, List.getElem_cons_zero]
                      first | (go_simp; done) | (go_simp; with_reducible rfl)
                    try simp only [Act.put, List.setIfInBounds_toArray, List.set_cons_zero, List.set_cons_succ, List.getElem_toArray, List.getElem_cons_succ, List.getElem_cons_zero]
                    refine wpAnyH_ready (rs := [12]) (by kernel_rfl) (by simp) ?_
                    refine AllReadyH.cons (o := _) rfl (fun K hK => ?_) AllReadyH.nil
                    try simp only [List.getElem_toArray, List.getElem_cons_succ, List.getElem_cons_zero]
                    go_simp
                    refine hK.out _ _ ?_ (fun hHeld => ?_)
                    · (first | exact e0 | exact e1 | exact e2 | exact e3 | exact e4 | exact e5 | exact e6 | exact e7)
                    clear hK K
                    try simp only [Act.put, List.setIfInBounds_toArray, List.set_cons_zero, List.set_cons_succ, List.getElem_toArray, List.getElem_cons_succ, List.getElem_cons_zero]
                    refine wpAnyH_done (by kernel_rfl) ?_ _
                    go_wp2_with fail
                    go_roundw
                    case rel => exact ⟨k + 1, A9, c9, A10, c10, by omega, by go_num, rfl, HS9⟩
                    case measure => simp [intOf] <;> omega
                  refine AllReadyH.cons (o := _) rfl (fun K hK => ?_) AllReadyH.nil
                  try simp only [List.getElem_toArray, List.getElem_cons_succ, List.getElem_cons_zero]
                  go_simp
                  refine hK.out _ _ ?_ (fun hHeld => ?_)
                  · (first | exact e0 | exact e1 | exact e2 | exact e3 | exact e4 | exact e5 | exact e6 | exact e7)
                  clear hK K
                  try simp only [Act.put, List.setIfInBounds_toArray, List.set_cons_zero, List.set_cons_succ, List.getElem_toArray, List.getElem_cons_succ, List.getElem_cons_zero]
                  refine wpAnyH_ready (rs := [5]) (by kernel_rfl) (by simp) ?_
                  refine AllReadyH.cons (o := _) rfl (fun K hK => ?_) AllReadyH.nil
                  try simp only [List.getElem_toArray, List.getElem_cons_succ, List.getElem_cons_zero]
                  go_simp
                  refine hK.out _ _ ?_ (fun hHeld => ?_)
                  · (first | exact e0 | exact e1 | exact e2 | exact e3 | exact e4 | exact e5 | exact e6 | exact e7)
                  clear hK K
                  try simp only [Act.put, List.setIfInBounds_toArray, List.set_cons_zero, List.set_cons_succ, List.getElem_toArray, List.getElem_cons_succ, List.getElem_cons_zero]
                  refine wpAnyH_ready (rs := [10]) (by kernel_rfl) (by simp) ?_
                  refine AllReadyH.cons (o := _) rfl (fun K hK => ?_) AllReadyH.nil
                  try simp (config := { proj := false }) only [List.getElem_toArray, List.getElem_cons_succ, List.getElem_cons_zero]
                  refine step_appO1 eltXS (by rfl) _ _ (by rfl) _ w.heap.size A6 k c6 vs (by rfl) (by exact HRP.out) (.slice A7 n7 c7) (by rfl) (some ⟨w8.heap.size, 0, none⟩) 1 (by rfl) (by exact HRM.out) (by exact HKK.out) ?_
                  intro A10 c10 w9 ho10 hc10 hf10
                  obtain ⟨hx8, hx4, hst⟩ := HS83.out.addP HRP.out HIP.out HV83.out (by have := HN7.out; omega) HPST.out ho10 hc10 hf10
                  have HS9 := Lib.hid hst
                  have hxx := blk_ch HX83.out hc10 (fun hq => by obtain ⟨cs, h1⟩ := own_foP HRP.out hq; exact blk_ne HX83.out h1 (by decide) rfl)
                  have e6 := And.intro (blk_cell hxx 0 rfl) (And.intro (blk_cell hxx 1 rfl) (blk_cell hx4 0 rfl))
                  have hxy := blk_ch hxx (ch_set w9 B8 0 (.slice A10 (k + 1) c10)) (fun e => blk_ne hxx hx8 (by decide) e)
                  have e7 := And.intro (blk_cell hxy 0 rfl) (And.intro (blk_cell hxy 1 rfl) (blk_cell hst.b4 0 rfl))
                  have g6 := blk_cell hx8 0 rfl
                  have f6 := blk_free hx8 0
                  clear ho10 hc10 hf10
                  refine hK.out _ _ ?_ (fun hHeld => ?_)
                  · (first | exact e0 | exact e1 | exact e2 | exact e3 | exact e4 | exact e5 | exact e6 | exact e7)
                  clear hK K
                  try simp only [Act.put, List.setIfInBounds_toArray, List.set_cons_zero, List.set_cons_succ, List.getElem_toArray, List.getElem_cons_succ, List.getElem_cons_zero]
                  refine wpAnyH_take (i := 11) (oi := _) (v := ?_) rfl (by kernel_rfl) (by kernel_rfl) (by kernel_rfl) (fun _ _ _ h => h) (Or.inl ⟨by rfl, ?_⟩) (by assumption) ?_
                  rotate_left
                  · intro wS hSw
                    (try dsimp only at hSw)
                    simp only [List.getElem_toArray, List.getElem_cons_succ, List.getElem_cons_zero]
                    first | (go_simp; done) | (go_simp; with_reducible rfl)
                  try simp only [Act.put, List.setIfInBounds_toArray, List.set_cons_zero, List.set_cons_succ, List.getElem_toArray, List.getElem_cons_succ, List.getElem_cons_zero]
                  refine wpAnyH_ready (rs := [12]) (by kernel_rfl) (by simp) ?_
                  refine AllReadyH.cons (o := _) rfl (fun K hK => ?_) AllReadyH.nil
                  try simp only [List.getElem_toArray, List.getElem_cons_succ, List.getElem_cons_zero]
                  go_simp
                  refine hK.out _ _ ?_ (fun hHeld => ?_)
                  · (first | exact e0 | exact e1 | exact e2 | exact e3 | exact e4 | exact e5 | exact e6 | exact e7)
                  clear hK K
                  try simp only [Act.put, List.setIfInBounds_toArray, List.set_cons_zero, List.set_cons_succ, List.getElem_toArray, List.getElem_cons_succ, List.getElem_cons_zero]
                  refine wpAnyH_done (by kernel_rfl) ?_ _
                  go_wp2_with fail
                  go_roundw
                  case rel => exact ⟨k + 1, A9, c9, A10, c10, by omega, by go_num, rfl, HS9⟩
                  case measure => simp [intOf] <;> omega
                refine AllReadyH.cons (o := _) rfl (fun K hK => ?_) AllReadyH.nil
                try simp only [List.getElem_toArray, List.getElem_cons_succ, List.getElem_cons_zero]
                go_simp
                refine hK.out _ _ ?_ (fun hHeld => ?_)
                · (first | exact e0 | exact e1 | exact e2 | exact e3 | exact e4 | exact e5 | exact e6 | exact e7)
                clear hK K
                try simp only [Act.put, List.setIfInBounds_toArray, List.set_cons_zero, List.set_cons_succ, List.getElem_toArray, List.getElem_cons_succ, List.getElem_cons_zero]
                refine wpAnyH_ready (rs := [4]) (by kernel_rfl) (by simp) ?_
                refine AllReadyH.cons (o := _) rfl (fun K hK => ?_) AllReadyH.nil
                try simp (config := { proj := false }) only [List.getElem_toArray, List.getElem_cons_succ, List.getElem_cons_zero]
                refine step_appO1 eltXS (by rfl) _ _ (by rfl) _ w.heap.size A5 k c5 us (by rfl) (by exact HRS.out) (.slice (some ⟨w6.heap.size, 0, none⟩) 1 1) (by rfl) (some ⟨w6.heap.size + 1, 0, none⟩) 1 (by rfl) (by exact HRL.out) (by exact HKK.out) ?_
                intro A9 c9 w7 ho9 hc9 hf9
                have hc9b : Ch (Fo (.slice A5 k c5)) ((w6.alloc (.cells #[.int .i64 1, .int .i64 0] 110)).alloc (.cells #[.slice (some ⟨w6.heap.size, 0, none⟩) 1 1] 42)) w7 := ⟨hc9.os, hc9.tape, hc9.output, hc9.size, hc9.block⟩
                have HS7 := Lib.hid (HSA.out.addS HRS.out HIS.out HLV.out (by omega) HSST.out ho9 hc9b hf9)
                have hx7 := blk_ch HXA.out hc9b (fun hq => by obtain ⟨cs, h1⟩ := own_foP HRS.out hq; exact blk_ne HXA.out h1 (by decide) rfl)
                have HX7 := Lib.hid hx7
                have e3 := And.intro (blk_cell HX7.out 0 rfl) (And.intro (blk_cell HX7.out 1 rfl) (blk_cell HS7.out.b4 0 rfl))
                have g3 := blk_cell HS7.out.b8 0 rfl
                clear ho9 hc9 hf9 hc9b hx7
                refine hK.out _ _ ?_ (fun hHeld => ?_)
                · (first | exact e0 | exact e1 | exact e2 | exact e3 | exact e4 | exact e5 | exact e6 | exact e7)
                clear hK K
                try simp only [Act.put, List.setIfInBounds_toArray, List.set_cons_zero, List.set_cons_succ, List.getElem_toArray, List.getElem_cons_succ, List.getElem_cons_zero]
                refine wpAnyH_ready (rs := [8]) (by kernel_rfl) (by simp) ?_
                refine AllReadyH.cons (o := _) rfl (fun K hK => ?_) AllReadyH.nil
                try simp only [List.getElem_toArray, List.getElem_cons_succ, List.getElem_cons_zero]
                go_simp
                go_at_call 87
                refine (placeOf_any _ k N HKN.out.1 HKN.out.2).mono ?_
                rintro e w8 ⟨A7, n7, c7, rfl, ho7, hb8⟩
                have HS8 := Lib.hid (HS7.out.below hb8)
                have hb83 := below_new w8 (.cells #[.slice A7 n7 c7] 42)
                have HS83 : Hid (St2 w (w8.alloc (.cells #[.slice A7 n7 c7] 42)) w.heap.size B8 N (k + 1) k A9 c9 A6 c6) := Lib.hid (HS8.out.below hb83)
                obtain ⟨vs, m1, m2⟩ := HS83.out.p
                have HRP := Lib.hid m1; have HIP := Lib.hid m2
                have HV83 := Lib.hid (ownN_below ho7 hb83 (Nat.le_refl _))
                have HN7 : Hid (n7 ≤ 100) := Lib.hid (by have := own_el ho7; have := HPL.out; omega)
                have HRM : Hid (Rd (w8.alloc (.cells #[.slice A7 n7 c7] 42)) (some ⟨w8.heap.size, 0, none⟩) 1 [.slice A7 n7 c7]) := Lib.hid (own_rd (own_lit w8 #[.slice A7 n7 c7] 1 42 rfl (by omega)))
                have hx8 := blk_bel HX7.out hb8
                have HX83 := Lib.hid (blk_bel hx8 hb83)
                have e4 := And.intro (blk_cell hx8 0 rfl) (And.intro (blk_cell hx8 1 rfl) (blk_cell HS8.out.b4 0 rfl))
                have e5 := And.intro (blk_cell HX83.out 0 rfl) (And.intro (blk_cell HX83.out 1 rfl) (blk_cell HS83.out.b4 0 rfl))
                have g4 := blk_cell HS8.out.b8 0 rfl
                have g5 := blk_cell HS83.out.b8 0 rfl
                clear ho7 hb8 hb83 m1 m2 hx8
                (try go_wp2_with fail)
                refine hK.out _ _ ?_ (fun hHeld => ?_)
                · (first | exact e0 | exact e1 | exact e2 | exact e3 | exact e4 | exact e5 | exact e6 | exact e7)
                clear hK K
                try simp only [Act.put, List.setIfInBounds_toArray, List.set_cons_zero, List.set_cons_succ, List.getElem_toArray, List.getElem_cons_succ, List.getElem_cons_zero]
                refine wpAnyH_ready (rs := [9]) (by kernel_rfl) (by simp) ?_
                refine AllReadyH.cons (o := _) rfl (fun K hK => ?_) AllReadyH.nil
                try simp only [List.getElem_toArray, List.getElem_cons_succ, List.getElem_cons_zero]
                go_simp
                refine hK.out _ _ ?_ (fun hHeld => ?_)
                · (first | exact e0 | exact e1 | exact e2 | exact e3 | exact e4 | exact e5 | exact e6 | exact e7)
                clear hK K
                try simp only [Act.put, List.setIfInBounds_toArray, List.set_cons_zero, List.set_cons_succ, List.getElem_toArray, List.getElem_cons_succ, List.getElem_cons_zero]
                refine wpAnyH_ready (rs := [10]) (by kernel_rfl) (by simp) ?_
                refine AllReadyH.cons (o := _) rfl (fun K hK => ?_) AllReadyH.nil
                try simp (config := { proj := false }) only [List.getElem_toArray, List.getElem_cons_succ, List.getElem_cons_zero]
                refine step_appO1 eltXS (by rfl) _ _ (by rfl) _ w.heap.size A6 k c6 vs (by rfl) (by exact HRP.out) (.slice A7 n7 c7) (by rfl) (some ⟨w8.heap.size, 0, none⟩) 1 (by rfl) (by exact HRM.out) (by exact HKK.out) ?_
                intro A10 c10 w9 ho10 hc10 hf10
                obtain ⟨hx8, hx4, hst⟩ := HS83.out.addP HRP.out HIP.out HV83.out (by have := HN7.out; omega) HPST.out ho10 hc10 hf10
                have HS9 := Lib.hid hst
                have hxx := blk_ch HX83.out hc10 (fun hq => by obtain ⟨cs, h1⟩ := own_foP HRP.out hq; exact blk_ne HX83.out h1 (by decide) rfl)
                have e6 := And.intro (blk_cell hxx 0 rfl) (And.intro (blk_cell hxx 1 rfl) (blk_cell hx4 0 rfl))
                have hxy := blk_ch hxx (ch_set w9 B8 0 (.slice A10 (k + 1) c10)) (fun e => blk_ne hxx hx8 (by decide) e)
                have e7 := And.intro (blk_cell hxy 0 rfl) (And.intro (blk_cell hxy 1 rfl) (blk_cell hst.b4 0 rfl))
                have g6 := blk_cell hx8 0 rfl
                have f6 := blk_free hx8 0
                clear ho10 hc10 hf10
                refine hK.out _ _ ?_ (fun hHeld => ?_)
                · (first | exact e0 | exact e1 | exact e2 | exact e3 | exact e4 | exact e5 | exact e6 | exact e7)
                clear hK K
                try simp only [Act.put, List.setIfInBounds_toArray, List.set_cons_zero, List.set_cons_succ, List.getElem_toArray, List.getElem_cons_succ, List.getElem_cons_zero]
                refine wpAnyH_take (i := 11) (oi := _) (v := ?_) rfl (by kernel_rfl) (by kernel_rfl) (by kernel_rfl) (fun _ _ _ h => h) (Or.inl ⟨by rfl, ?_⟩) (by assumption) ?_
                rotate_left
                · intro wS hSw
                  (try dsimp only at hSw)
                  simp only [List.getElem_toArray, List.getElem_cons_succ, List.getElem_cons_zero]
                  first | (go_simp; done) | (go_simp; with_reducible rfl)
                try simp only [Act.put, List.setIfInBounds_toArray, List.set_cons_zero, List.set_cons_succ, List.getElem_toArray, List.getElem_cons_succ, List.getElem_cons_zero]
                refine wpAnyH_ready (rs := [12]) (by kernel_rfl) (by simp) ?_
                refine AllReadyH.cons (o := _) rfl (fun K hK => ?_) AllReadyH.nil
                try simp only [List.getElem_toArray, List.getElem_cons_succ, List.getElem_cons_zero]
                go_simp
                refine hK.out _ _ ?_ (fun hHeld => ?_)
                · (first | exact e0 | exact e1 | exact e2 | exact e3 | exact e4 | exact e5 | exact e6 | exact e7)
                clear hK K
                try simp only [Act.put, List.setIfInBounds_toArray, List.set_cons_zero, List.set_cons_succ, List.getElem_toArray, List.getElem_cons_succ, List.getElem_cons_zero]
                refine wpAnyH_done (by kernel_rfl) ?_ _
                go_wp2_with fail
                go_roundw
                case rel => exact ⟨k + 1, A9, c9, A10, c10, by omega, by go_num, rfl, HS9⟩
                case measure => simp [intOf] <;> omega
              refine AllReadyH.cons (o := _) rfl (fun K hK => ?_) AllReadyH.nil
              try simp only [List.getElem_toArray, List.getElem_cons_succ, List.getElem_cons_zero]
              go_simp
              refine hK.out _ _ ?_ (fun hHeld => ?_)
              · (first | exact e0 | exact e1 | exact e2 | exact e3 | exact e4 | exact e5 | exact e6 | exact e7)
              clear hK K
              try simp only [Act.put, List.setIfInBounds_toArray, List.set_cons_zero, List.set_cons_succ, List.getElem_toArray, List.getElem_cons_succ, List.getElem_cons_zero]
              refine wpAnyH_ready (rs := [3]) (by kernel_rfl) (by simp) ?_
              refine AllReadyH.cons (o := _) rfl (fun K hK => ?_) AllReadyH.nil
              try simp only [List.getElem_toArray, List.getElem_cons_succ, List.getElem_cons_zero]
              go_simp
              refine hK.out _ _ ?_ (fun hHeld => ?_)
              · (first | exact e0 | exact e1 | exact e2 | exact e3 | exact e4 | exact e5 | exact e6 | exact e7)
              clear hK K
              try simp only [Act.put, List.setIfInBounds_toArray, List.set_cons_zero, List.set_cons_succ, List.getElem_toArray, List.getElem_cons_succ, List.getElem_cons_zero]
              refine wpAnyH_ready (rs := [4]) (by kernel_rfl) (by simp) ?_
              refine AllReadyH.cons (o := _) rfl (fun K hK => ?_) AllReadyH.nil
              try simp (config := { proj := false }) only [List.getElem_toArray, List.getElem_cons_succ, List.getElem_cons_zero]
              refine step_appO1 eltXS (by rfl) _ _ (by rfl) _ w.heap.size A5 k c5 us (by rfl) (by exact HRS.out) (.slice (some ⟨w6.heap.size, 0, none⟩) 1 1) (by rfl) (some ⟨w6.heap.size + 1, 0, none⟩) 1 (by rfl) (by exact HRL.out) (by exact HKK.out) ?_
              intro A9 c9 w7 ho9 hc9 hf9
              have hc9b : Ch (Fo (.slice A5 k c5)) ((w6.alloc (.cells #[.int .i64 1, .int .i64 0] 110)).alloc (.cells #[.slice (some ⟨w6.heap.size, 0, none⟩) 1 1] 42)) w7 := ⟨hc9.os, hc9.tape, hc9.output, hc9.size, hc9.block⟩
              have HS7 := Lib.hid (HSA.out.addS HRS.out HIS.out HLV.out (by omega) HSST.out ho9 hc9b hf9)
              have hx7 := blk_ch HXA.out hc9b (fun hq => by obtain ⟨cs, h1⟩ := own_foP HRS.out hq; exact blk_ne HXA.out h1 (by decide) rfl)
              have HX7 := Lib.hid hx7
              have e3 := And.intro (blk_cell HX7.out 0 rfl) (And.intro (blk_cell HX7.out 1 rfl) (blk_cell HS7.out.b4 0 rfl))
              have g3 := blk_cell HS7.out.b8 0 rfl
              clear ho9 hc9 hf9 hc9b hx7
              refine hK.out _ _ ?_ (fun hHeld => ?_)
              · (first | exact e0 | exact e1 | exact e2 | exact e3 | exact e4 | exact e5 | exact e6 | exact e7)
              clear hK K
              try simp only [Act.put, List.setIfInBounds_toArray, List.set_cons_zero, List.set_cons_succ, List.getElem_toArray, List.getElem_cons_succ, List.getElem_cons_zero]
              refine wpAnyH_ready (rs := [8]) (by kernel_rfl) (by simp) ?_
              refine AllReadyH.cons (o := _) rfl (fun K hK => ?_) AllReadyH.nil
              try simp only [List.getElem_toArray, List.getElem_cons_succ, List.getElem_cons_zero]
              go_simp
              go_at_call 87
              refine (placeOf_any _ k N HKN.out.1 HKN.out.2).mono ?_
              rintro e w8 ⟨A7, n7, c7, rfl, ho7, hb8⟩
              have HS8 := Lib.hid (HS7.out.below hb8)
              have hb83 := below_new w8 (.cells #[.slice A7 n7 c7] 42)
              have HS83 : Hid (St2 w (w8.alloc (.cells #[.slice A7 n7 c7] 42)) w.heap.size B8 N (k + 1) k A9 c9 A6 c6) := Lib.hid (HS8.out.below hb83)
              obtain ⟨vs, m1, m2⟩ := HS83.out.p
              have HRP := Lib.hid m1; have HIP := Lib.hid m2
              have HV83 := Lib.hid (ownN_below ho7 hb83 (Nat.le_refl _))
              have HN7 : Hid (n7 ≤ 100) := Lib.hid (by have := own_el ho7; have := HPL.out; omega)
              have HRM : Hid (Rd (w8.alloc (.cells #[.slice A7 n7 c7] 42)) (some ⟨w8.heap.size, 0, none⟩) 1 [.slice A7 n7 c7]) := Lib.hid (own_rd (own_lit w8 #[.slice A7 n7 c7] 1 42 rfl (by omega)))
              have hx8 := blk_bel HX7.out hb8
              have HX83 := Lib.hid (blk_bel hx8 hb83)
              have e4 := And.intro (blk_cell hx8 0 rfl) (And.intro (blk_cell hx8 1 rfl) (blk_cell HS8.out.b4 0 rfl))
              have e5 := And.intro (blk_cell HX83.out 0 rfl) (And.intro (blk_cell HX83.out 1 rfl) (blk_cell HS83.out.b4 0 rfl))
              have g4 := blk_cell HS8.out.b8 0 rfl
              have g5 := blk_cell HS83.out.b8 0 rfl
              clear ho7 hb8 hb83 m1 m2 hx8
              (try go_wp2_with fail)
              refine hK.out _ _ ?_ (fun hHeld => ?_)
              · (first | exact e0 | exact e1 | exact e2 | exact e3 | exact e4 | exact e5 | exact e6 | exact e7)
              clear hK K
              try simp only [Act.put, List.setIfInBounds_toArray, List.set_cons_zero, List.set_cons_succ, List.getElem_toArray, List.getElem_cons_succ, List.getElem_cons_zero]
              refine wpAnyH_ready (rs := [9]) (by kernel_rfl) (by simp) ?_
              refine AllReadyH.cons (o := _) rfl (fun K hK => ?_) AllReadyH.nil
              try simp only [List.getElem_toArray, List.getElem_cons_succ, List.getElem_cons_zero]
              go_simp
              refine hK.out _ _ ?_ (fun hHeld => ?_)
              · (first | exact e0 | exact e1 | exact e2 | exact e3 | exact e4 | exact e5 | exact e6 | exact e7)
              clear hK K
              try simp only [Act.put, List.setIfInBounds_toArray, List.set_cons_zero, List.set_cons_succ, List.getElem_toArray, List.getElem_cons_succ, List.getElem_cons_zero]
              refine wpAnyH_ready (rs := [10]) (by kernel_rfl) (by simp) ?_
              refine AllReadyH.cons (o := _) rfl (fun K hK => ?_) AllReadyH.nil
              try simp (config := { proj := false }) only [List.getElem_toArray, List.getElem_cons_succ, List.getElem_cons_zero]
              refine step_appO1 eltXS (by rfl) _ _ (by rfl) _ w.heap.size A6 k c6 vs (by rfl) (by exact HRP.out) (.slice A7 n7 c7) (by rfl) (some ⟨w8.heap.size, 0, none⟩) 1 (by rfl) (by exact HRM.out) (by exact HKK.out) ?_
              intro A10 c10 w9 ho10 hc10 hf10
              obtain ⟨hx8, hx4, hst⟩ := HS83.out.addP HRP.out HIP.out HV83.out (by have := HN7.out; omega) HPST.out ho10 hc10 hf10
              have HS9 := Lib.hid hst
              have hxx := blk_ch HX83.out hc10 (fun hq => by obtain ⟨cs, h1⟩ := own_foP HRP.out hq; exact blk_ne HX83.out h1 (by decide) rfl)
              have e6 := And.intro (blk_cell hxx 0 rfl) (And.intro (blk_cell hxx 1 rfl) (blk_cell hx4 0 rfl))
              have hxy := blk_ch hxx (ch_set w9 B8 0 (.slice A10 (k + 1) c10)) (fun e => blk_ne hxx hx8 (by decide) e)
              have e7 := And.intro (blk_cell hxy 0 rfl) (And.intro (blk_cell hxy 1 rfl) (blk_cell hst.b4 0 rfl))
              have g6 := blk_cell hx8 0 rfl
              have f6 := blk_free hx8 0
              clear ho10 hc10 hf10
              refine hK.out _ _ ?_ (fun hHeld => ?_)
              · (first | exact e0 | exact e1 | exact e2 | exact e3 | exact e4 | exact e5 | exact e6 | exact e7)
              clear hK K
              try simp only [Act.put, List.setIfInBounds_toArray, List.set_cons_zero, List.set_cons_succ, List.getElem_toArray, List.getElem_cons_succ, List.getElem_cons_zero]
              refine wpAnyH_take (i := 11) (oi := _) (v := ?_) rfl (by kernel_rfl) (by kernel_rfl) (by kernel_rfl) (fun _ _ _ h => h) (Or.inl ⟨by rfl, ?_⟩) (by assumption) ?_
              rotate_left
              · intro wS hSw
                (try dsimp only at hSw)
                simp only [List.getElem_toArray, List.getElem_cons_succ, List.getElem_cons_zero]
                first | (go_simp; done) | (go_simp; with_reducible rfl)
              try simp only [Act.put, List.setIfInBounds_toArray, List.set_cons_zero, List.set_cons_succ, List.getElem_toArray, List.getElem_cons_succ, List.getElem_cons_zero]
              refine wpAnyH_ready (rs := [12]) (by kernel_rfl) (by simp) ?_
              refine AllReadyH.cons (o := _) rfl (fun K hK => ?_) AllReadyH.nil
              try simp only [List.getElem_toArray, List.getElem_cons_succ, List.getElem_cons_zero]
              go_simp
              refine hK.out _ _ ?_ (fun hHeld => ?_)
              · (first | exact e0 | exact e1 | exact e2 | exact e3 | exact e4 | exact e5 | exact e6 | exact e7)
              clear hK K
              try simp only [Act.put, List.setIfInBounds_toArray, List.set_cons_zero, List.set_cons_succ, List.getElem_toArray, List.getElem_cons_succ, List.getElem_cons_zero]
              refine wpAnyH_done (by kernel_rfl) ?_ _
              go_wp2_with fail
              go_roundw
              case rel => exact ⟨k + 1, A9, c9, A10, c10, by omega, by go_num, rfl, HS9⟩
              case measure => simp [intOf] <;> omega
            refine AllReadyH.cons (o := _) rfl (fun K hK => ?_) AllReadyH.nil
            try simp only [List.getElem_toArray, List.getElem_cons_succ, List.getElem_cons_zero]
            go_simp
            refine hK.out _ _ ?_ (fun hHeld => ?_)
            · (first | exact e0 | exact e1 | exact e2 | exact e3 | exact e4 | exact e5 | exact e6 | exact e7)
            clear hK K
            try simp only [Act.put, List.setIfInBounds_toArray, List.set_cons_zero, List.set_cons_succ, List.getElem_toArray, List.getElem_cons_succ, List.getElem_cons_zero]
            refine wpAnyH_ready (rs := [2]) (by kernel_rfl) (by simp) ?_
            refine AllReadyH.cons (o := _) rfl (fun K hK => ?_) AllReadyH.nil
            try simp only [List.getElem_toArray, List.getElem_cons_succ, List.getElem_cons_zero]
            go_simp
            refine hK.out _ _ ?_ (fun hHeld => ?_)
            · (first | exact e0 | exact e1 | exact e2 | exact e3 | exact e4 | exact e5 | exact e6 | exact e7)
            clear hK K
            try simp only [Act.put, List.setIfInBounds_toArray, List.set_cons_zero, List.set_cons_succ, List.getElem_toArray, List.getElem_cons_succ, List.getElem_cons_zero]
            refine wpAnyH_ready (rs := [3]) (by kernel_rfl) (by simp) ?_
            refine AllReadyH.cons (o := _) rfl (fun K hK => ?_) AllReadyH.nil
            try simp only [List.getElem_toArray, List.getElem_cons_succ, List.getElem_cons_zero]
            go_simp
            refine hK.out _ _ ?_ (fun hHeld => ?_)
            · (first | exact e0 | exact e1 | exact e2 | exact e3 | exact e4 | exact e5 | exact e6 | exact e7)
            clear hK K
            try simp only [Act.put, List.setIfInBounds_toArray, List.set_cons_zero, List.set_cons_succ, List.getElem_toArray, List.getElem_cons_succ, List.getElem_cons_zero]
            refine wpAnyH_ready (rs := [4]) (by kernel_rfl) (by simp) ?_
            refine AllReadyH.cons (o := _) rfl (fun K hK => ?_) AllReadyH.nil
            try simp (config := { proj := false }) only [List.getElem_toArray, List.getElem_cons_succ, List.getElem_cons_zero]
            refine step_appO1 eltXS (by rfl) _ _ (by rfl) _ w.heap.size A5 k c5 us (by rfl) (by exact HRS.out) (.slice (some ⟨w6.heap.size, 0, none⟩) 1 1) (by rfl) (some ⟨w6.heap.size + 1, 0, none⟩) 1 (by rfl) (by exact HRL.out) (by exact HKK.out) ?_
            intro A9 c9 w7 ho9 hc9 hf9
            have hc9b : Ch (Fo (.slice A5 k c5)) ((w6.alloc (.cells #[.int .i64 1, .int .i64 0] 110)).alloc (.cells #[.slice (some ⟨w6.heap.size, 0, none⟩) 1 1] 42)) w7 := ⟨hc9.os, hc9.tape, hc9.output, hc9.size, hc9.block⟩
            have HS7 := Lib.hid (HSA.out.addS HRS.out HIS.out HLV.out (by omega) HSST.out ho9 hc9b hf9)
            have hx7 := blk_ch HXA.out hc9b (fun hq => by obtain ⟨cs, h1⟩ := own_foP HRS.out hq; exact blk_ne HXA.out h1 (by decide) rfl)
            have HX7 := Lib.hid hx7
            have e3 := And.intro (blk_cell HX7.out 0 rfl) (And.intro (blk_cell HX7.out 1 rfl) (blk_cell HS7.out.b4 0 rfl))
            have g3 := blk_cell HS7.out.b8 0 rfl
            clear ho9 hc9 hf9 hc9b hx7
            refine hK.out _ _ ?_ (fun hHeld => ?_)
            · (first | exact e0 | exact e1 | exact e2 | exact e3 | exact e4 | exact e5 | exact e6 | exact e7)
            clear hK K
            try simp only [Act.put, List.setIfInBounds_toArray, List.set_cons_zero, List.set_cons_succ, List.getElem_toArray, List.getElem_cons_succ, List.getElem_cons_zero]
            refine wpAnyH_ready (rs := [8]) (by kernel_rfl) (by simp) ?_
            refine AllReadyH.cons (o := _) rfl (fun K hK => ?_) AllReadyH.nil
            try simp only [List.getElem_toArray, List.getElem_cons_succ, List.getElem_cons_zero]
            go_simp
            go_at_call 87
            refine (placeOf_any _ k N HKN.out.1 HKN.out.2).mono ?_
            rintro e w8 ⟨A7, n7, c7, rfl, ho7, hb8⟩
            have HS8 := Lib.hid (HS7.out.below hb8)
            have hb83 := below_new w8 (.cells #[.slice A7 n7 c7] 42)
            have HS83 : Hid (St2 w (w8.alloc (.cells #[.slice A7 n7 c7] 42)) w.heap.size B8 N (k + 1) k A9 c9 A6 c6) := Lib.hid (HS8.out.below hb83)
            obtain ⟨vs, m1, m2⟩ := HS83.out.p
            have HRP := Lib.hid m1; have HIP := Lib.hid m2
            have HV83 := Lib.hid (ownN_below ho7 hb83 (Nat.le_refl _))
            have HN7 : Hid (n7 ≤ 100) := Lib.hid (by have := own_el ho7; have := HPL.out; omega)
            have HRM : Hid (Rd (w8.alloc (.cells #[.slice A7 n7 c7] 42)) (some ⟨w8.heap.size, 0, none⟩) 1 [.slice A7 n7 c7]) := Lib.hid (own_rd (own_lit w8 #[.slice A7 n7 c7] 1 42 rfl (by omega)))
            have hx8 := blk_bel HX7.out hb8
            have HX83 := Lib.hid (blk_bel hx8 hb83)
            have e4 := And.intro (blk_cell hx8 0 rfl) (And.intro (blk_cell hx8 1 rfl) (blk_cell HS8.out.b4 0 rfl))
            have e5 := And.intro (blk_cell HX83.out 0 rfl) (And.intro (blk_cell HX83.out 1 rfl) (blk_cell HS83.out.b4 0 rfl))
            have g4 := blk_cell HS8.out.b8 0 rfl
            have g5 := blk_cell HS83.out.b8 0 rfl
            clear ho7 hb8 hb83 m1 m2 hx8
            (try go_wp2_with fail)
            refine hK.out _ _ ?_ (fun hHeld => ?_)
            · (first | exact e0 | exact e1 | exact e2 | exact e3 | exact e4 | exact e5 | exact e6 | exact e7)
            clear hK K
            try simp only [Act.put, List.setIfInBounds_toArray, List.set_cons_zero, List.set_cons_succ, List.getElem_toArray, List.getElem_cons_succ, List.getElem_cons_zero]
            refine wpAnyH_ready (rs := [9]) (by kernel_rfl) (by simp) ?_
            refine AllReadyH.cons (o := _) rfl (fun K hK => ?_) AllReadyH.nil
            try simp only [List.getElem_toArray, List.getElem_cons_succ, List.getElem_cons_zero]
            go_simp
            refine hK.out _ _ ?_ (fun hHeld => ?_)
            · (first | exact e0 | exact e1 | exact e2 | exact e3 | exact e4 | exact e5 | exact e6 | exact e7)
            clear hK K
            try simp only [Act.put, List.setIfInBounds_toArray, List.set_cons_zero, List.set_cons_succ, List.getElem_toArray, List.getElem_cons_succ, List.getElem_cons_zero]
            refine wpAnyH_ready (rs := [10]) (by kernel_rfl) (by simp) ?_
            refine AllReadyH.cons (o := _) rfl (fun K hK => ?_) AllReadyH.nil
            try simp (config := { proj := false }) only [List.getElem_toArray, List.getElem_cons_succ, List.getElem_cons_zero]
            refine step_appO1 eltXS (by rfl) _ _ (by rfl) _ w.heap.size A6 k c6 vs (by rfl) (by exact HRP.out) (.slice A7 n7 c7) (by rfl) (some ⟨w8.heap.size, 0, none⟩) 1 (by rfl) (by exact HRM.out) (by exact HKK.out) ?_
            intro A10 c10 w9 ho10 hc10 hf10
            obtain ⟨hx8, hx4, hst⟩ := HS83.out.addP HRP.out HIP.out HV83.out (by have := HN7.out; omega) HPST.out ho10 hc10 hf10
            have HS9 := Lib.hid hst
            have hxx := blk_ch HX83.out hc10 (fun hq => by obtain ⟨cs, h1⟩ := own_foP HRP.out hq; exact blk_ne HX83.out h1 (by decide) rfl)
            have e6 := And.intro (blk_cell hxx 0 rfl) (And.intro (blk_cell hxx 1 rfl) (blk_cell hx4 0 rfl))
            have hxy := blk_ch hxx (ch_set w9 B8 0 (.slice A10 (k + 1) c10)) (fun e => blk_ne hxx hx8 (by decide) e)
            have e7 := And.intro (blk_cell hxy 0 rfl) (And.intro (blk_cell hxy 1 rfl) (blk_cell hst.b4 0 rfl))
            have g6 := blk_cell hx8 0 rfl
            have f6 := blk_free hx8 0
            clear ho10 hc10 hf10
            refine hK.out _ _ ?_ (fun hHeld => ?_)
            · (first | exact e0 | exact e1 | exact e2 | exact e3 | exact e4 | exact e5 | exact e6 | exact e7)
            clear hK K
            try simp only [Act.put, List.setIfInBounds_toArray, List.set_cons_zero, List.set_cons_succ, List.getElem_toArray, List.getElem_cons_succ, List.getElem_cons_zero]
            refine wpAnyH_take (i := 11) (oi := _) (v := ?_) rfl (by kernel_rfl) (by kernel_rfl) (by kernel_rfl) (fun _ _ _ h => h) (Or.inl ⟨by rfl, ?_⟩) (by assumption) ?_
            rotate_left
            · intro wS hSw
              (try dsimp only at hSw)
              simp only [List.getElem_toArray, List.getElem_cons_succ, List.getElem_cons_zero]
              first | (go_simp; done) | (go_simp; with_reducible rfl)
            try simp only [Act.put, List.setIfInBounds_toArray, List.set_cons_zero, List.set_cons_succ, List.getElem_toArray, List.getElem_cons_succ, List.getElem_cons_zero]
            refine wpAnyH_ready (rs := [12]) (by kernel_rfl) (by simp) ?_
            refine AllReadyH.cons (o := _) rfl (fun K hK => ?_) AllReadyH.nil
            try simp only [List.getElem_toArray, List.getElem_cons_succ, List.getElem_cons_zero]
            go_simp
            refine hK.out _ _ ?_ (fun hHeld => ?_)
            · (first | exact e0 | exact e1 | exact e2 | exact e3 | exact e4 | exact e5 | exact e6 | exact e7)
            clear hK K
            try simp only [Act.put, List.setIfInBounds_toArray, List.set_cons_zero, List.set_cons_succ, List.getElem_toArray, List.getElem_cons_succ, List.getElem_cons_zero]
            refine wpAnyH_done (by kernel_rfl) ?_ _
            go_wp2_with fail
            go_roundw
            case rel => exact ⟨k + 1, A9, c9, A10, c10, by omega, by go_num, rfl, HS9⟩
            case measure => simp [intOf] <;> omega
          · have HSST := Lib.hid (start_step (N := N) (k := k) (by omega) hlt)
            obtain ⟨w6, hw6⟩ : ∃ w6, w6 = wr.alloc (.cells #[.int .i64 0, .int .i64 0] 110) := ⟨_, rfl⟩
            rw [← hw6] at hb6
            have HS6 := Lib.hid (HS.out.below hb6)
            have HX10 : Hid (w6.heap[wr.heap.size]? = some (.cells #[.int .i64 0, .int .i64 0] 110 (0, 0))) := Lib.hid (by rw [hw6]; exact box_new _ _ _)
            have i0 : ¬ (k : Int) = 0 := by omega
            have i1 : ((k : Int) == 0) = false := by rw [beq_eq_false_iff_ne]; exact i0
            clear hb6
            go_upto_region 16 with fail
            rw [← hw6]
            clear hw6 i0 i1
            have hbA := below_new w6 (.cells #[.int .i64 0, .int .i64 0] 110)
            have hbB := below_new (w6.alloc (.cells #[.int .i64 0, .int .i64 0] 110)) (.cells #[.slice (some ⟨w6.heap.size, 0, none⟩) 1 1] 42)
            have hbAB : Below w6.heap.size w6 ((w6.alloc (.cells #[.int .i64 0, .int .i64 0] 110)).alloc (.cells #[.slice (some ⟨w6.heap.size, 0, none⟩) 1 1] 42)) := bqcP hbB hbA
            have HSA : Hid (St2 w ((w6.alloc (.cells #[.int .i64 0, .int .i64 0] 110)).alloc (.cells #[.slice (some ⟨w6.heap.size, 0, none⟩) 1 1] 42)) w.heap.size B8 N k k A5 c5 A6 c6) := Lib.hid (HS6.out.below hbAB)
            obtain ⟨us, l1, l2⟩ := HSA.out.s
            have HRS := Lib.hid l1; have HIS := Lib.hid l2
            have HLV : Hid (((w6.alloc (.cells #[.int .i64 0, .int .i64 0] 110)).alloc (.cells #[.slice (some ⟨w6.heap.size, 0, none⟩) 1 1] 42)).ownsRow w6.heap.size 110 2 (.slice (some ⟨w6.heap.size, 0, none⟩) 1 1) 1 (ints (eNums [(0, 0)]))) := Lib.hid (ownN_below (lit_elG w6 0 0) hbB (Nat.le_refl _))
            have HRL : Hid (Rd ((w6.alloc (.cells #[.int .i64 0, .int .i64 0] 110)).alloc (.cells #[.slice (some ⟨w6.heap.size, 0, none⟩) 1 1] 42)) (some ⟨w6.heap.size + 1, 0, none⟩) 1 [.slice (some ⟨w6.heap.size, 0, none⟩) 1 1]) := Lib.hid (by have h := own_rd (own_lit (w6.alloc (.cells #[.int .i64 0, .int .i64 0] 110)) #[.slice (some ⟨w6.heap.size, 0, none⟩) 1 1] 1 42 rfl (by omega)); simpa using h)
            have HXA := Lib.hid (blk_bel HX10.out hbAB)
            have e0 := And.intro (blk_cell HX10.out 0 rfl) (And.intro (blk_cell HX10.out 1 rfl) (blk_cell HS6.out.b4 0 rfl))
            have e1 := And.intro (blk_cell (blk_bel HX10.out hbA) 0 rfl) (And.intro (blk_cell (blk_bel HX10.out hbA) 1 rfl) (blk_cell (HS6.out.below hbA).b4 0 rfl))
            have e2 := And.intro (blk_cell HXA.out 0 rfl) (And.intro (blk_cell HXA.out 1 rfl) (blk_cell HSA.out.b4 0 rfl))
            have g0 := blk_cell HS6.out.b8 0 rfl
            have g1 := blk_cell (HS6.out.below hbA).b8 0 rfl
            have g2 := blk_cell HSA.out.b8 0 rfl
            have HKK : Hid (k ≤ 1000000000) := Lib.hid (by have := HN.out; omega)
            have HPL : Hid ((placeE k N).length ≤ 100) := Lib.hid (by have := placeE_len k N; have := HN.out; omega)
            have HKN : Hid (k ≤ 80 ∧ N ≤ 100) := Lib.hid (by have := HN.out; omega)
            clear hbA hbB hbAB l1 l2
            refine wp_region_held_drew (S := fun w' => w'.cell? ⟨wr.heap.size, 0, none⟩ = some (.int .i64 0) ∧ w'.cell? ⟨wr.heap.size, 1, none⟩ = some (.int .i64 0) ∧ w'.cell? ⟨w.heap.size, 0, none⟩ = some (.int .i64 (N : Int))) (by kernel_rfl) ?_ (fun hHeld => ?_)
            · (first | exact e0 | exact e1 | exact e2 | exact e3 | exact e4 | exact e5 | exact e6 | exact e7)
            refine wpAnyH_take (i := 0) (oi := _) (v := ?_) rfl (by kernel_rfl) (by kernel_rfl) (by kernel_rfl) (fun _ _ _ h => h) (Or.inl ⟨by rfl, ?_⟩) (by assumption) ?_
            rotate_left
            · intro wS hSw
              (try dsimp only at hSw)
              simp only [List.getElem_toArray, List.getElem_cons_succ, List.getElem_cons_zero]
              first | (go_simp; done) | (go_simp; with_reducible rfl)
            try simp only [Act.put, List.setIfInBounds_toArray, List.set_cons_zero, List.set_cons_succ, List.getElem_toArray, List.getElem_cons_succ, List.getElem_cons_zero]
            refine wpAnyH_take (i := 1) (oi := _) (v := ?_) rfl (by kernel_rfl) (by kernel_rfl) (by kernel_rfl) (fun _ _ _ h => h) (Or.inl ⟨by rfl, ?_⟩) (by assumption) ?_
            rotate_left
            · intro wS hSw
              (try dsimp only at hSw)
              simp only [List.getElem_toArray, List.getElem_cons_succ, List.getElem_cons_zero]
              first | (go_simp; done) | (go_simp; with_reducible rfl)
            try simp only [Act.put, List.setIfInBounds_toArray, List.set_cons_zero, List.set_cons_succ, List.getElem_toArray, List.getElem_cons_succ, List.getElem_cons_zero]
            refine wpAnyH_take (i := 6) (oi := _) (v := ?_) rfl (by kernel_rfl) (by kernel_rfl) (by kernel_rfl) (fun _ _ _ h => h) (Or.inl ⟨by rfl, ?_⟩) (by assumption) ?_
            rotate_left
            · intro wS hSw
              (try dsimp only at hSw)
              simp only [List.getElem_toArray, List.getElem_cons_succ, List.getElem_cons_zero]
              first | (go_simp; done) | (go_simp; with_reducible rfl)
            try simp only [Act.put, List.setIfInBounds_toArray, List.set_cons_zero, List.set_cons_succ, List.getElem_toArray, List.getElem_cons_succ, List.getElem_cons_zero]
            refine wpAnyH_take (i := 7) (oi := _) (v := ?_) rfl (by kernel_rfl) (by kernel_rfl) (by kernel_rfl) (fun _ _ _ h => h) (Or.inl ⟨by rfl, ?_⟩) (by assumption) ?_
            rotate_left
            · intro wS hSw
              (try dsimp only at hSw)
              simp only [List.getElem_toArray, List.getElem_cons_succ, List.getElem_cons_zero]
              first | (go_simp; done) | (go_simp; with_reducible rfl)
            try simp only [Act.put, List.setIfInBounds_toArray, List.set_cons_zero, List.set_cons_succ, List.getElem_toArray, List.getElem_cons_succ, List.getElem_cons_zero]
            refine wpAnyH_ready (rs := [2, 5]) (by kernel_rfl) (by simp) ?_
            refine AllReadyH.cons (o := _) rfl (fun K hK => ?_) ?_
            · skip
              try simp only [List.getElem_toArray, List.getElem_cons_succ, List.getElem_cons_zero]
              go_simp
              refine hK.out _ _ ?_ (fun hHeld => ?_)
              · (first | exact e0 | exact e1 | exact e2 | exact e3 | exact e4 | exact e5 | exact e6 | exact e7)
              clear hK K
              try simp only [Act.put, List.setIfInBounds_toArray, List.set_cons_zero, List.set_cons_succ, List.getElem_toArray, List.getElem_cons_succ, List.getElem_cons_zero]
              refine wpAnyH_ready (rs := [3, 5]) (by kernel_rfl) (by simp) ?_
              refine AllReadyH.cons (o := _) rfl (fun K hK => ?_) ?_
              · skip
                try simp only [List.getElem_toArray, List.getElem_cons_succ, List.getElem_cons_zero]
                go_simp
                refine hK.out _ _ ?_ (fun hHeld => ?_)
                · (first | exact e0 | exact e1 | exact e2 | exact e3 | exact e4 | exact e5 | exact e6 | exact e7)
                clear hK K
                try simp only [Act.put, List.setIfInBounds_toArray, List.set_cons_zero, List.set_cons_succ, List.getElem_toArray, List.getElem_cons_succ, List.getElem_cons_zero]
                refine wpAnyH_ready (rs := [4, 5]) (by kernel_rfl) (by simp) ?_
                refine AllReadyH.cons (o := _) rfl (fun K hK => ?_) ?_
                · skip
                  try simp (config := { proj := false }) only [List.getElem_toArray, List.getElem_cons_succ, List.getElem_cons_zero]
                  refine step_appO1 eltXS (by rfl) _ _ (by rfl) _ w.heap.size A5 k c5 us (by rfl) (by exact HRS.out) (.slice (some ⟨w6.heap.size, 0, none⟩) 1 1) (by rfl) (some ⟨w6.heap.size + 1, 0, none⟩) 1 (by rfl) (by exact HRL.out) (by exact HKK.out) ?_
                  intro A9 c9 w7 ho9 hc9 hf9
                  have hc9b : Ch (Fo (.slice A5 k c5)) ((w6.alloc (.cells #[.int .i64 0, .int .i64 0] 110)).alloc (.cells #[.slice (some ⟨w6.heap.size, 0, none⟩) 1 1] 42)) w7 := ⟨hc9.os, hc9.tape, hc9.output, hc9.size, hc9.block⟩
                  have HS7 := Lib.hid (HSA.out.addS HRS.out HIS.out HLV.out (by omega) HSST.out ho9 hc9b hf9)
                  have hx7 := blk_ch HXA.out hc9b (fun hq => by obtain ⟨cs, h1⟩ := own_foP HRS.out hq; exact blk_ne HXA.out h1 (by decide) rfl)
                  have HX7 := Lib.hid hx7
                  have e3 := And.intro (blk_cell HX7.out 0 rfl) (And.intro (blk_cell HX7.out 1 rfl) (blk_cell HS7.out.b4 0 rfl))
                  have g3 := blk_cell HS7.out.b8 0 rfl
                  clear ho9 hc9 hf9 hc9b hx7
                  refine hK.out _ _ ?_ (fun hHeld => ?_)
                  · (first | exact e0 | exact e1 | exact e2 | exact e3 | exact e4 | exact e5 | exact e6 | exact e7)
                  clear hK K
                  try simp only [Act.put, List.setIfInBounds_toArray, List.set_cons_zero, List.set_cons_succ, List.getElem_toArray, List.getElem_cons_succ, List.getElem_cons_zero]
                  refine wpAnyH_ready (rs := [5, 8]) (by kernel_rfl) (by simp) ?_
                  refine AllReadyH.cons (o := _) rfl (fun K hK => ?_) ?_
                  · skip
                    try simp only [List.getElem_toArray, List.getElem_cons_succ, List.getElem_cons_zero]
                    go_simp
                    refine hK.out _ _ ?_ (fun hHeld => ?_)
                    · (first | exact e0 | exact e1 | exact e2 | exact e3 | exact e4 | exact e5 | exact e6 | exact e7)
                    clear hK K
                    try simp only [Act.put, List.setIfInBounds_toArray, List.set_cons_zero, List.set_cons_succ, List.getElem_toArray, List.getElem_cons_succ, List.getElem_cons_zero]
                    refine wpAnyH_ready (rs := [8]) (by kernel_rfl) (by simp) ?_
                    refine AllReadyH.cons (o := _) rfl (fun K hK => ?_) AllReadyH.nil
                    try simp only [List.getElem_toArray, List.getElem_cons_succ, List.getElem_cons_zero]
                    go_simp
                    go_at_call 87
                    refine (placeOf_any _ k N HKN.out.1 HKN.out.2).mono ?_
                    rintro e w8 ⟨A7, n7, c7, rfl, ho7, hb8⟩
                    have HS8 := Lib.hid (HS7.out.below hb8)
                    have hb83 := below_new w8 (.cells #[.slice A7 n7 c7] 42)
                    have HS83 : Hid (St2 w (w8.alloc (.cells #[.slice A7 n7 c7] 42)) w.heap.size B8 N (k + 1) k A9 c9 A6 c6) := Lib.hid (HS8.out.below hb83)
                    obtain ⟨vs, m1, m2⟩ := HS83.out.p
                    have HRP := Lib.hid m1; have HIP := Lib.hid m2
                    have HV83 := Lib.hid (ownN_below ho7 hb83 (Nat.le_refl _))
                    have HN7 : Hid (n7 ≤ 100) := Lib.hid (by have := own_el ho7; have := HPL.out; omega)
                    have HRM : Hid (Rd (w8.alloc (.cells #[.slice A7 n7 c7] 42)) (some ⟨w8.heap.size, 0, none⟩) 1 [.slice A7 n7 c7]) := Lib.hid (own_rd (own_lit w8 #[.slice A7 n7 c7] 1 42 rfl (by omega)))
                    have hx8 := blk_bel HX7.out hb8
                    have HX83 := Lib.hid (blk_bel hx8 hb83)
                    have e4 := And.intro (blk_cell hx8 0 rfl) (And.intro (blk_cell hx8 1 rfl) (blk_cell HS8.out.b4 0 rfl))
                    have e5 := And.intro (blk_cell HX83.out 0 rfl) (And.intro (blk_cell HX83.out 1 rfl) (blk_cell HS83.out.b4 0 rfl))
                    have g4 := blk_cell HS8.out.b8 0 rfl
                    have g5 := blk_cell HS83.out.b8 0 rfl
                    clear ho7 hb8 hb83 m1 m2 hx8
                    (try go_wp2_with fail)
                    refine hK.out _ _ ?_ (fun hHeld => ?_)
                    · (first | exact e0 | exact e1 | exact e2 | exact e3 | exact e4 | exact e5 | exact e6 | exact e7)
                    clear hK K
                    try simp only [Act.put, List.setIfInBounds_toArray, List.set_cons_zero, List.set_cons_succ, List.getElem_toArray, List.getElem_cons_succ, List.getElem_cons_zero]
                    refine wpAnyH_ready (rs := [9]) (by kernel_rfl) (by simp) ?_
                    refine AllReadyH.cons (o := _) rfl (fun K hK => ?_) AllReadyH.nil
                    try simp only [List.getElem_toArray, List.getElem_cons_succ, List.getElem_cons_zero]
                    go_simp
                    refine hK.out _ _ ?_ (fun hHeld => ?_)
                    · (first | exact e0 | exact e1 | exact e2 | exact e3 | exact e4 | exact e5 | exact e6 | exact e7)
                    clear hK K
                    try simp only [Act.put, List.setIfInBounds_toArray, List.set_cons_zero, List.set_cons_succ, List.getElem_toArray, List.getElem_cons_succ, List.getElem_cons_zero]
                    refine wpAnyH_ready (rs := [10]) (by kernel_rfl) (by simp) ?_
                    refine AllReadyH.cons (o := _) rfl (fun K hK => ?_) AllReadyH.nil
                    try simp (config := { proj := false }) only [List.getElem_toArray, List.getElem_cons_succ, List.getElem_cons_zero]
                    refine step_appO1 eltXS (by rfl) _ _ (by rfl) _ w.heap.size A6 k c6 vs (by rfl) (by exact HRP.out) (.slice A7 n7 c7) (by rfl) (some ⟨w8.heap.size, 0, none⟩) 1 (by rfl) (by exact HRM.out) (by exact HKK.out) ?_
                    intro A10 c10 w9 ho10 hc10 hf10
                    obtain ⟨hx8, hx4, hst⟩ := HS83.out.addP HRP.out HIP.out HV83.out (by have := HN7.out; omega) HPST.out ho10 hc10 hf10
                    have HS9 := Lib.hid hst
                    have hxx := blk_ch HX83.out hc10 (fun hq => by obtain ⟨cs, h1⟩ := own_foP HRP.out hq; exact blk_ne HX83.out h1 (by decide) rfl)
                    have e6 := And.intro (blk_cell hxx 0 rfl) (And.intro (blk_cell hxx 1 rfl) (blk_cell hx4 0 rfl))
                    have hxy := blk_ch hxx (ch_set w9 B8 0 (.slice A10 (k + 1) c10)) (fun e => blk_ne hxx hx8 (by decide) e)
                    have e7 := And.intro (blk_cell hxy 0 rfl) (And.intro (blk_cell hxy 1 rfl) (blk_cell hst.b4 0 rfl))
                    have g6 := blk_cell hx8 0 rfl
                    have f6 := blk_free hx8 0
                    clear ho10 hc10 hf10
                    refine hK.out _ _ ?_ (fun hHeld => ?_)
                    · (first | exact e0 | exact e1 | exact e2 | exact e3 | exact e4 | exact e5 | exact e6 | exact e7)
                    clear hK K
                    try simp only [Act.put, List.setIfInBounds_toArray, List.set_cons_zero, List.set_cons_succ, List.getElem_toArray, List.getElem_cons_succ, List.getElem_cons_zero]
                    refine wpAnyH_take (i := 11) (oi := _) (v := ?_) rfl (by kernel_rfl) (by kernel_rfl) (by kernel_rfl) (fun _ _ _ h => h) (Or.inl ⟨by rfl, ?_⟩) (by assumption) ?_
                    rotate_left
                    · intro wS hSw
                      (try dsimp only at hSw)
                      simp only [List.getElem_toArray, List.getElem_cons_succ, List.getElem_cons_zero]
                      first | (go_simp; done) | (go_simp; with_reducible rfl)
                    try simp only [Act.put, List.setIfInBounds_toArray, List.set_cons_zero, List.set_cons_succ, List.getElem_toArray, List.getElem_cons_succ, List.getElem_cons_zero]
                    refine wpAnyH_ready (rs := [12]) (by kernel_rfl) (by simp) ?_
                    refine AllReadyH.cons (o := _) rfl (fun K hK => ?_) AllReadyH.nil
                    try simp only [List.getElem_toArray, List.getElem_cons_succ, List.getElem_cons_zero]
                    go_simp
                    refine hK.out _ _ ?_ (fun hHeld => ?_)
                    · (first | exact e0 | exact e1 | exact e2 | exact e3 | exact e4 | exact e5 | exact e6 | exact e7)
                    clear hK K
                    try simp only [Act.put, List.setIfInBounds_toArray, List.set_cons_zero, List.set_cons_succ, List.getElem_toArray, List.getElem_cons_succ, List.getElem_cons_zero]
                    refine wpAnyH_done (by kernel_rfl) ?_ _
                    go_wp2_with fail
                    go_roundw
                    case rel => exact ⟨k + 1, A9, c9, A10, c10, by omega, by go_num, rfl, HS9⟩
                    case measure => simp [intOf] <;> omega
                  refine AllReadyH.cons (o := _) rfl (fun K hK => ?_) AllReadyH.nil
                  try simp only [List.getElem_toArray, List.getElem_cons_succ, List.getElem_cons_zero]
                  go_simp
                  go_at_call 87
                  refine (placeOf_any _ k N HKN.out.1 HKN.out.2).mono ?_
                  rintro e w8 ⟨A7, n7, c7, rfl, ho7, hb8⟩
                  have HS8 := Lib.hid (HS7.out.below hb8)
                  have hb83 := below_new w8 (.cells #[.slice A7 n7 c7] 42)
                  have HS83 : Hid (St2 w (w8.alloc (.cells #[.slice A7 n7 c7] 42)) w.heap.size B8 N (k + 1) k A9 c9 A6 c6) := Lib.hid (HS8.out.below hb83)
                  obtain ⟨vs, m1, m2⟩ := HS83.out.p
                  have HRP := Lib.hid m1; have HIP := Lib.hid m2
                  have HV83 := Lib.hid (ownN_below ho7 hb83 (Nat.le_refl _))
                  have HN7 : Hid (n7 ≤ 100) := Lib.hid (by have := own_el ho7; have := HPL.out; omega)
                  have HRM : Hid (Rd (w8.alloc (.cells #[.slice A7 n7 c7] 42)) (some ⟨w8.heap.size, 0, none⟩) 1 [.slice A7 n7 c7]) := Lib.hid (own_rd (own_lit w8 #[.slice A7 n7 c7] 1 42 rfl (by omega)))
                  have hx8 := blk_bel HX7.out hb8
                  have HX83 := Lib.hid (blk_bel hx8 hb83)
                  have e4 := And.intro (blk_cell hx8 0 rfl) (And.intro (blk_cell hx8 1 rfl) (blk_cell HS8.out.b4 0 rfl))
                  have e5 := And.intro (blk_cell HX83.out 0 rfl) (And.intro (blk_cell HX83.out 1 rfl) (blk_cell HS83.out.b4 0 rfl))
                  have g4 := blk_cell HS8.out.b8 0 rfl
                  have g5 := blk_cell HS83.out.b8 0 rfl
                  clear ho7 hb8 hb83 m1 m2 hx8
                  (try go_wp2_with fail)
                  refine hK.out _ _ ?_ (fun hHeld => ?_)
                  · (first | exact e0 | exact e1 | exact e2 | exact e3 | exact e4 | exact e5 | exact e6 | exact e7)
                  clear hK K
                  try simp only [Act.put, List.setIfInBounds_toArray, List.set_cons_zero, List.set_cons_succ, List.getElem_toArray, List.getElem_cons_succ, List.getElem_cons_zero]
                  refine wpAnyH_ready (rs := [5, 9]) (by kernel_rfl) (by simp) ?_
                  refine AllReadyH.cons (o := _) rfl (fun K hK => ?_) ?_
                  · skip
                    try simp only [List.getElem_toArray, List.getElem_cons_succ, List.getElem_cons_zero]
                    go_simp
                    refine hK.out _ _ ?_ (fun hHeld => ?_)
                    · (first | exact e0 | exact e1 | exact e2 | exact e3 | exact e4 | exact e5 | exact e6 | exact e7)
                    clear hK K
                    try simp only [Act.put, List.setIfInBounds_toArray, List.set_cons_zero, List.set_cons_succ, List.getElem_toArray, List.getElem_cons_succ, List.getElem_cons_zero]
                    refine wpAnyH_ready (rs := [9]) (by kernel_rfl) (by simp) ?_
                    refine AllReadyH.cons (o := _) rfl (fun K hK => ?_) AllReadyH.nil
                    try simp only [List.getElem_toArray, List.getElem_cons_succ, List.getElem_cons_zero]
                    go_simp
                    refine hK.out _ _ ?_ (fun hHeld => ?_)
                    · (first | exact e0 | exact e1 | exact e2 | exact e3 | exact e4 | exact e5 | exact e6 | exact e7)
                    clear hK K
                    try simp only [Act.put, List.setIfInBounds_toArray, List.set_cons_zero, List.set_cons_succ, List.getElem_toArray, List.getElem_cons_succ, List.getElem_cons_zero]
                    refine wpAnyH_ready (rs := [10]) (by kernel_rfl) (by simp) ?_
                    refine AllReadyH.cons (o := _) rfl (fun K hK => ?_) AllReadyH.nil
                    try simp (config := { proj := false }) only [List.getElem_toArray, List.getElem_cons_succ, List.getElem_cons_zero]
                    refine step_appO1 eltXS (by rfl) _ _ (by rfl) _ w.heap.size A6 k c6 vs (by rfl) (by exact HRP.out) (.slice A7 n7 c7) (by rfl) (some ⟨w8.heap.size, 0, none⟩) 1 (by rfl) (by exact HRM.out) (by exact HKK.out) ?_
                    intro A10 c10 w9 ho10 hc10 hf10
                    obtain ⟨hx8, hx4, hst⟩ := HS83.out.addP HRP.out HIP.out HV83.out (by have := HN7.out; omega) HPST.out ho10 hc10 hf10
                    have HS9 := Lib.hid hst
                    have hxx := blk_ch HX83.out hc10 (fun hq => by obtain ⟨cs, h1⟩ := own_foP HRP.out hq; exact blk_ne HX83.out h1 (by decide) rfl)
                    have e6 := And.intro (blk_cell hxx 0 rfl) (And.intro (blk_cell hxx 1 rfl) (blk_cell hx4 0 rfl))
                    have hxy := blk_ch hxx (ch_set w9 B8 0 (.slice A10 (k + 1) c10)) (fun e => blk_ne hxx hx8 (by decide) e)
                    have e7 := And.intro (blk_cell hxy 0 rfl) (And.intro (blk_cell hxy 1 rfl) (blk_cell hst.b4 0 rfl))
                    have g6 := blk_cell hx8 0 rfl
                    have f6 := blk_free hx8 0
                    clear ho10 hc10 hf10
                    refine hK.out _ _ ?_ (fun hHeld => ?_)
                    · (first | exact e0 | exact e1 | exact e2 | exact e3 | exact e4 | exact e5 | exact e6 | exact e7)
                    clear hK K
                    try simp only [Act.put, List.setIfInBounds_toArray, List.set_cons_zero, List.set_cons_succ, List.getElem_toArray, List.getElem_cons_succ, List.getElem_cons_zero]
                    refine wpAnyH_take (i := 11) (oi := _) (v := ?_) rfl (by kernel_rfl) (by kernel_rfl) (by kernel_rfl) (fun _ _ _ h => h) (Or.inl ⟨by rfl, ?_⟩) (by assumption) ?_
                    rotate_left
                    · intro wS hSw
                      (try dsimp only at hSw)
                      simp only [List.getElem_toArray, List.getElem_cons_succ, List.getElem_cons_zero]
                      first | (go_simp; done) | (go_simp; with_reducible rfl)
                    try simp only [Act.put, List.setIfInBounds_toArray, List.set_cons_zero, List.set_cons_succ, List.getElem_toArray, List.getElem_cons_succ, List.getElem_cons_zero]
                    refine wpAnyH_ready (rs := [12]) (by kernel_rfl) (by simp) ?_
                    refine AllReadyH.cons (o := _) rfl (fun K hK => ?_) AllReadyH.nil
                    try simp only [List.getElem_toArray, List.getElem_cons_succ, List.getElem_cons_zero]
                    go_simp
                    refine hK.out _ _ ?_ (fun hHeld => ?_)
                    · (first | exact e0 | exact e1 | exact e2 | exact e3 | exact e4 | exact e5 | exact e6 | exact e7)
                    clear hK K
                    try simp only [Act.put, List.setIfInBounds_toArray, List.set_cons_zero, List.set_cons_succ, List.getElem_toArray, List.getElem_cons_succ, List.getElem_cons_zero]
                    refine wpAnyH_done (by kernel_rfl) ?_ _
                    go_wp2_with fail
                    go_roundw
                    case rel => exact ⟨k + 1, A9, c9, A10, c10, by omega, by go_num, rfl, HS9⟩
                    case measure => simp [intOf] <;> omega
                  refine AllReadyH.cons (o := _) rfl (fun K hK => ?_) AllReadyH.nil
                  try simp only [List.getElem_toArray, List.getElem_cons_succ, List.getElem_cons_zero]
                  go_simp
                  refine hK.out _ _ ?_ (fun hHeld => ?_)
                  · (first | exact e0 | exact e1 | exact e2 | exact e3 | exact e4 | exact e5 | exact e6 | exact e7)
                  clear hK K
                  try simp only [Act.put, List.setIfInBounds_toArray, List.set_cons_zero, List.set_cons_succ, List.getElem_toArray, List.getElem_cons_succ, List.getElem_cons_zero]
                  refine wpAnyH_ready (rs := [5]) (by kernel_rfl) (by simp) ?_
                  refine AllReadyH.cons (o := _) rfl (fun K hK => ?_) AllReadyH.nil
                  try simp only [List.getElem_toArray, List.getElem_cons_succ, List.getElem_cons_zero]
                  go_simp
                  refine hK.out _ _ ?_ (fun hHeld => ?_)
                  · (first | exact e0 | exact e1 | exact e2 | exact e3 | exact e4 | exact e5 | exact e6 | exact e7)
                  clear hK K
                  try simp only [Act.put, List.setIfInBounds_toArray, List.set_cons_zero, List.set_cons_succ, List.getElem_toArray, List.getElem_cons_succ, List.getElem_cons_zero]
                  refine wpAnyH_ready (rs := [10]) (by kernel_rfl) (by simp) ?_
                  refine AllReadyH.cons (o := _) rfl (fun K hK => ?_) AllReadyH.nil
                  try simp (config := { proj := false }) only [List.getElem_toArray, List.getElem_cons_succ, List.getElem_cons_zero]
                  refine step_appO1 eltXS (by rfl) _ _ (by rfl) _ w.heap.size A6 k c6 vs (by rfl) (by exact HRP.out) (.slice A7 n7 c7) (by rfl) (some ⟨w8.heap.size, 0, none⟩) 1 (by rfl) (by exact HRM.out) (by exact HKK.out) ?_
                  intro A10 c10 w9 ho10 hc10 hf10
                  obtain ⟨hx8, hx4, hst⟩ := HS83.out.addP HRP.out HIP.out HV83.out (by have := HN7.out; omega) HPST.out ho10 hc10 hf10
                  have HS9 := Lib.hid hst
                  have hxx := blk_ch HX83.out hc10 (fun hq => by obtain ⟨cs, h1⟩ := own_foP HRP.out hq; exact blk_ne HX83.out h1 (by decide) rfl)
                  have e6 := And.intro (blk_cell hxx 0 rfl) (And.intro (blk_cell hxx 1 rfl) (blk_cell hx4 0 rfl))
                  have hxy := blk_ch hxx (ch_set w9 B8 0 (.slice A10 (k + 1) c10)) (fun e => blk_ne hxx hx8 (by decide) e)
                  have e7 := And.intro (blk_cell hxy 0 rfl) (And.intro (blk_cell hxy 1 rfl) (blk_cell hst.b4 0 rfl))
                  have g6 := blk_cell hx8 0 rfl
                  have f6 := blk_free hx8 0
                  clear ho10 hc10 hf10
                  refine hK.out _ _ ?_ (fun hHeld => ?_)
                  · (first | exact e0 | exact e1 | exact e2 | exact e3 | exact e4 | exact e5 | exact e6 | exact e7)
                  clear hK K
                  try simp only [Act.put, List.setIfInBounds_toArray, List.set_cons_zero, List.set_cons_succ, List.getElem_toArray, List.getElem_cons_succ, List.getElem_cons_zero]
                  refine wpAnyH_take (i := 11) (oi := _) (v := ?_) rfl (by kernel_rfl) (by kernel_rfl) (by kernel_rfl) (fun _ _ _ h => h) (Or.inl ⟨by rfl, ?_⟩) (by assumption) ?_
                  rotate_left
                  · intro wS hSw
                    (try dsimp only at hSw)
                    simp only [List.getElem_toArray, List.getElem_cons_succ, List.getElem_cons_zero]
                    first | (go_simp; done) | (go_simp; with_reducible rfl)
                  try simp only [Act.put, List.setIfInBounds_toArray, List.set_cons_zero, List.set_cons_succ, List.getElem_toArray, List.getElem_cons_succ, List.getElem_cons_zero]
                  refine wpAnyH_ready (rs := [12]) (by kernel_rfl) (by simp) ?_
                  refine AllReadyH.cons (o := _) rfl (fun K hK => ?_) AllReadyH.nil
                  try simp only [List.getElem_toArray, List.getElem_cons_succ, List.getElem_cons_zero]
                  go_simp
                  refine hK.out _ _ ?_ (fun hHeld => ?_)
                  · (first | exact e0 | exact e1 | exact e2 | exact e3 | exact e4 | exact e5 | exact e6 | exact e7)
                  clear hK K
                  try simp only [Act.put, List.setIfInBounds_toArray, List.set_cons_zero, List.set_cons_succ, List.getElem_toArray, List.getElem_cons_succ, List.getElem_cons_zero]
                  refine wpAnyH_done (by kernel_rfl) ?_ _
                  go_wp2_with fail
                  go_roundw
                  case rel => exact ⟨k + 1, A9, c9, A10, c10, by omega, by go_num, rfl, HS9⟩
                  case measure => simp [intOf] <;> omega
                refine AllReadyH.cons (o := _) rfl (fun K hK => ?_) AllReadyH.nil
                try simp only [List.getElem_toArray, List.getElem_cons_succ, List.getElem_cons_zero]
                go_simp
                refine hK.out _ _ ?_ (fun hHeld => ?_)
                · (first | exact e0 | exact e1 | exact e2 | exact e3 | exact e4 | exact e5 | exact e6 | exact e7)
                clear hK K
                try simp only [Act.put, List.setIfInBounds_toArray, List.set_cons_zero, List.set_cons_succ, List.getElem_toArray, List.getElem_cons_succ, List.getElem_cons_zero]
                refine wpAnyH_ready (rs := [4]) (by kernel_rfl) (by simp) ?_
                refine AllReadyH.cons (o := _) rfl (fun K hK => ?_) AllReadyH.nil
                try simp (config := { proj := false }) only [List.getElem_toArray, List.getElem_cons_succ, List.getElem_cons_zero]
                refine step_appO1 eltXS (by rfl) _ _ (by rfl) _ w.heap.size A5 k c5 us (by rfl) (by exact HRS.out) (.slice (some ⟨w6.heap.size, 0, none⟩) 1 1) (by rfl) (some ⟨w6.heap.size + 1, 0, none⟩) 1 (by rfl) (by exact HRL.out) (by exact HKK.out) ?_
                intro A9 c9 w7 ho9 hc9 hf9
                have hc9b : Ch (Fo (.slice A5 k c5)) ((w6.alloc (.cells #[.int .i64 0, .int .i64 0] 110)).alloc (.cells #[.slice (some ⟨w6.heap.size, 0, none⟩) 1 1] 42)) w7 := ⟨hc9.os, hc9.tape, hc9.output, hc9.size, hc9.block⟩
                have HS7 := Lib.hid (HSA.out.addS HRS.out HIS.out HLV.out (by omega) HSST.out ho9 hc9b hf9)
                have hx7 := blk_ch HXA.out hc9b (fun hq => by obtain ⟨cs, h1⟩ := own_foP HRS.out hq; exact blk_ne HXA.out h1 (by decide) rfl)
                have HX7 := Lib.hid hx7
                have e3 := And.intro (blk_cell HX7.out 0 rfl) (And.intro (blk_cell HX7.out 1 rfl) (blk_cell HS7.out.b4 0 rfl))
                have g3 := blk_cell HS7.out.b8 0 rfl
                clear ho9 hc9 hf9 hc9b hx7
                refine hK.out _ _ ?_ (fun hHeld => ?_)
                · (first | exact e0 | exact e1 | exact e2 | exact e3 | exact e4 | exact e5 | exact e6 | exact e7)
                clear hK K
                try simp only [Act.put, List.setIfInBounds_toArray, List.set_cons_zero, List.set_cons_succ, List.getElem_toArray, List.getElem_cons_succ, List.getElem_cons_zero]
                refine wpAnyH_ready (rs := [8]) (by kernel_rfl) (by simp) ?_
                refine AllReadyH.cons (o := _) rfl (fun K hK => ?_) AllReadyH.nil
                try simp only [List.getElem_toArray, List.getElem_cons_succ, List.getElem_cons_zero]
                go_simp
                go_at_call 87
                refine (placeOf_any _ k N HKN.out.1 HKN.out.2).mono ?_
                rintro e w8 ⟨A7, n7, c7, rfl, ho7, hb8⟩
                have HS8 := Lib.hid (HS7.out.below hb8)
                have hb83 := below_new w8 (.cells #[.slice A7 n7 c7] 42)
                have HS83 : Hid (St2 w (w8.alloc (.cells #[.slice A7 n7 c7] 42)) w.heap.size B8 N (k + 1) k A9 c9 A6 c6) := Lib.hid (HS8.out.below hb83)
                obtain ⟨vs, m1, m2⟩ := HS83.out.p
                have HRP := Lib.hid m1; have HIP := Lib.hid m2
                have HV83 := Lib.hid (ownN_below ho7 hb83 (Nat.le_refl _))
                have HN7 : Hid (n7 ≤ 100) := Lib.hid (by have := own_el ho7; have := HPL.out; omega)
                have HRM : Hid (Rd (w8.alloc (.cells #[.slice A7 n7 c7] 42)) (some ⟨w8.heap.size, 0, none⟩) 1 [.slice A7 n7 c7]) := Lib.hid (own_rd (own_lit w8 #[.slice A7 n7 c7] 1 42 rfl (by omega)))
                have hx8 := blk_bel HX7.out hb8
                have HX83 := Lib.hid (blk_bel hx8 hb83)
                have e4 := And.intro (blk_cell hx8 0 rfl) (And.intro (blk_cell hx8 1 rfl) (blk_cell HS8.out.b4 0 rfl))
                have e5 := And.intro (blk_cell HX83.out 0 rfl) (And.intro (blk_cell HX83.out 1 rfl) (blk_cell HS83.out.b4 0 rfl))
                have g4 := blk_cell HS8.out.b8 0 rfl
                have g5 := blk_cell HS83.out.b8 0 rfl
                clear ho7 hb8 hb83 m1 m2 hx8
                (try go_wp2_with fail)
                refine hK.out _ _ ?_ (fun hHeld => ?_)
                · (first | exact e0 | exact e1 | exact e2 | exact e3 | exact e4 | exact e5 | exact e6 | exact e7)
                clear hK K
                try simp only [Act.put, List.setIfInBounds_toArray, List.set_cons_zero, List.set_cons_succ, List.getElem_toArray, List.getElem_cons_succ, List.getElem_cons_zero]
                refine wpAnyH_ready (rs := [9]) (by kernel_rfl) (by simp) ?_
                refine AllReadyH.cons (o := _) rfl (fun K hK => ?_) AllReadyH.nil
                try simp only [List.getElem_toArray, List.getElem_cons_succ, List.getElem_cons_zero]
                go_simp
                refine hK.out _ _ ?_ (fun hHeld => ?_)
                · (first | exact e0 | exact e1 | exact e2 | exact e3 | exact e4 | exact e5 | exact e6 | exact e7)
                clear hK K
                try simp only [Act.put, List.setIfInBounds_toArray, List.set_cons_zero, List.set_cons_succ, List.getElem_toArray, List.getElem_cons_succ, List.getElem_cons_zero]
                refine wpAnyH_ready (rs := [10]) (by kernel_rfl) (by simp) ?_
                refine AllReadyH.cons (o := _) rfl (fun K hK => ?_) AllReadyH.nil
                try simp (config := { proj := false }) only [List.getElem_toArray, List.getElem_cons_succ, List.getElem_cons_zero]
                refine step_appO1 eltXS (by rfl) _ _ (by rfl) _ w.heap.size A6 k c6 vs (by rfl) (by exact HRP.out) (.slice A7 n7 c7) (by rfl) (some ⟨w8.heap.size, 0, none⟩) 1 (by rfl) (by exact HRM.out) (by exact HKK.out) ?_
                intro A10 c10 w9 ho10 hc10 hf10
                obtain ⟨hx8, hx4, hst⟩ := HS83.out.addP HRP.out HIP.out HV83.out (by have := HN7.out; omega) HPST.out ho10 hc10 hf10
                have HS9 := Lib.hid hst
                have hxx := blk_ch HX83.out hc10 (fun hq => by obtain ⟨cs, h1⟩ := own_foP HRP.out hq; exact blk_ne HX83.out h1 (by decide) rfl)
                have e6 := And.intro (blk_cell hxx 0 rfl) (And.intro (blk_cell hxx 1 rfl) (blk_cell hx4 0 rfl))
                have hxy := blk_ch hxx (ch_set w9 B8 0 (.slice A10 (k + 1) c10)) (fun e => blk_ne hxx hx8 (by decide) e)
                have e7 := And.intro (blk_cell hxy 0 rfl) (And.intro (blk_cell hxy 1 rfl) (blk_cell hst.b4 0 rfl))
                have g6 := blk_cell hx8 0 rfl
                have f6 := blk_free hx8 0
                clear ho10 hc10 hf10
                refine hK.out _ _ ?_ (fun hHeld => ?_)
                · (first | exact e0 | exact e1 | exact e2 | exact e3 | exact e4 | exact e5 | exact e6 | exact e7)
                clear hK K
                try simp only [Act.put, List.setIfInBounds_toArray, List.set_cons_zero, List.set_cons_succ, List.getElem_toArray, List.getElem_cons_succ, List.getElem_cons_zero]
                refine wpAnyH_take (i := 11) (oi := _) (v := ?_) rfl (by kernel_rfl) (by kernel_rfl) (by kernel_rfl) (fun _ _ _ h => h) (Or.inl ⟨by rfl, ?_⟩) (by assumption) ?_
                rotate_left
                · intro wS hSw
                  (try dsimp only at hSw)
                  simp only [List.getElem_toArray, List.getElem_cons_succ, List.getElem_cons_zero]
                  first | (go_simp; done) | (go_simp; with_reducible rfl)
                try simp only [Act.put, List.setIfInBounds_toArray, List.set_cons_zero, List.set_cons_succ, List.getElem_toArray, List.getElem_cons_succ, List.getElem_cons_zero]
                refine wpAnyH_ready (rs := [12]) (by kernel_rfl) (by simp) ?_
                refine AllReadyH.cons (o := _) rfl (fun K hK => ?_) AllReadyH.nil
                try simp only [List.getElem_toArray, List.getElem_cons_succ, List.getElem_cons_zero]
                go_simp
                refine hK.out _ _ ?_ (fun hHeld => ?_)
                · (first | exact e0 | exact e1 | exact e2 | exact e3 | exact e4 | exact e5 | exact e6 | exact e7)
                clear hK K
                try simp only [Act.put, List.setIfInBounds_toArray, List.set_cons_zero, List.set_cons_succ, List.getElem_toArray, List.getElem_cons_succ, List.getElem_cons_zero]
                refine wpAnyH_done (by kernel_rfl) ?_ _
                go_wp2_with fail
                go_roundw
                case rel => exact ⟨k + 1, A9, c9, A10, c10, by omega, by go_num, rfl, HS9⟩
                case measure => simp [intOf] <;> omega
              refine AllReadyH.cons (o := _) rfl (fun K hK => ?_) AllReadyH.nil
              try simp only [List.getElem_toArray, List.getElem_cons_succ, List.getElem_cons_zero]
              go_simp
              refine hK.out _ _ ?_ (fun hHeld => ?_)
              · (first | exact e0 | exact e1 | exact e2 | exact e3 | exact e4 | exact e5 | exact e6 | exact e7)
              clear hK K
              try simp only [Act.put, List.setIfInBounds_toArray, List.set_cons_zero, List.set_cons_succ, List.getElem_toArray, List.getElem_cons_succ, List.getElem_cons_zero]
              refine wpAnyH_ready (rs := [3]) (by kernel_rfl) (by simp) ?_
              refine AllReadyH.cons (o := _) rfl (fun K hK => ?_) AllReadyH.nil
              try simp only [List.getElem_toArray, List.getElem_cons_succ, List.getElem_cons_zero]
              go_simp
              refine hK.out _ _ ?_ (fun hHeld => ?_)
              · (first | exact e0 | exact e1 | exact e2 | exact e3 | exact e4 | exact e5 | exact e6 | exact e7)
              clear hK K
              try simp only [Act.put, List.setIfInBounds_toArray, List.set_cons_zero, List.set_cons_succ, List.getElem_toArray, List.getElem_cons_succ, List.getElem_cons_zero]
              refine wpAnyH_ready (rs := [4]) (by kernel_rfl) (by simp) ?_
              refine AllReadyH.cons (o := _) rfl (fun K hK => ?_) AllReadyH.nil
              try simp (config := { proj := false }) only [List.getElem_toArray, List.getElem_cons_succ, List.getElem_cons_zero]
              refine step_appO1 eltXS (by rfl) _ _ (by rfl) _ w.heap.size A5 k c5 us (by rfl) (by exact HRS.out) (.slice (some ⟨w6.heap.size, 0, none⟩) 1 1) (by rfl) (some ⟨w6.heap.size + 1, 0, none⟩) 1 (by rfl) (by exact HRL.out) (by exact HKK.out) ?_
              intro A9 c9 w7 ho9 hc9 hf9
              have hc9b : Ch (Fo (.slice A5 k c5)) ((w6.alloc (.cells #[.int .i64 0, .int .i64 0] 110)).alloc (.cells #[.slice (some ⟨w6.heap.size, 0, none⟩) 1 1] 42)) w7 := ⟨hc9.os, hc9.tape, hc9.output, hc9.size, hc9.block⟩
              have HS7 := Lib.hid (HSA.out.addS HRS.out HIS.out HLV.out (by omega) HSST.out ho9 hc9b hf9)
              have hx7 := blk_ch HXA.out hc9b (fun hq => by obtain ⟨cs, h1⟩ := own_foP HRS.out hq; exact blk_ne HXA.out h1 (by decide) rfl)
              have HX7 := Lib.hid hx7
              have e3 := And.intro (blk_cell HX7.out 0 rfl) (And.intro (blk_cell HX7.out 1 rfl) (blk_cell HS7.out.b4 0 rfl))
              have g3 := blk_cell HS7.out.b8 0 rfl
              clear ho9 hc9 hf9 hc9b hx7
              refine hK.out _ _ ?_ (fun hHeld => ?_)
              · (first | exact e0 | exact e1 | exact e2 | exact e3 | exact e4 | exact e5 | exact e6 | exact e7)
              clear hK K
              try simp only [Act.put, List.setIfInBounds_toArray, List.set_cons_zero, List.set_cons_succ, List.getElem_toArray, List.getElem_cons_succ, List.getElem_cons_zero]
              refine wpAnyH_ready (rs := [8]) (by kernel_rfl) (by simp) ?_
              refine AllReadyH.cons (o := _) rfl (fun K hK => ?_) AllReadyH.nil
              try simp only [List.getElem_toArray, List.getElem_cons_succ, List.getElem_cons_zero]
              go_simp
              go_at_call 87
              refine (placeOf_any _ k N HKN.out.1 HKN.out.2).mono ?_
              rintro e w8 ⟨A7, n7, c7, rfl, ho7, hb8⟩
              have HS8 := Lib.hid (HS7.out.below hb8)
              have hb83 := below_new w8 (.cells #[.slice A7 n7 c7] 42)
              have HS83 : Hid (St2 w (w8.alloc (.cells #[.slice A7 n7 c7] 42)) w.heap.size B8 N (k + 1) k A9 c9 A6 c6) := Lib.hid (HS8.out.below hb83)
              obtain ⟨vs, m1, m2⟩ := HS83.out.p
              have HRP := Lib.hid m1; have HIP := Lib.hid m2
              have HV83 := Lib.hid (ownN_below ho7 hb83 (Nat.le_refl _))
              have HN7 : Hid (n7 ≤ 100) := Lib.hid (by have := own_el ho7; have := HPL.out; omega)
              have HRM : Hid (Rd (w8.alloc (.cells #[.slice A7 n7 c7] 42)) (some ⟨w8.heap.size, 0, none⟩) 1 [.slice A7 n7 c7]) := Lib.hid (own_rd (own_lit w8 #[.slice A7 n7 c7] 1 42 rfl (by omega)))
              have hx8 := blk_bel HX7.out hb8
              have HX83 := Lib.hid (blk_bel hx8 hb83)
              have e4 := And.intro (blk_cell hx8 0 rfl) (And.intro (blk_cell hx8 1 rfl) (blk_cell HS8.out.b4 0 rfl))
              have e5 := And.intro (blk_cell HX83.out 0 rfl) (And.intro (blk_cell HX83.out 1 rfl) (blk_cell HS83.out.b4 0 rfl))
              have g4 := blk_cell HS8.out.b8 0 rfl
              have g5 := blk_cell HS83.out.b8 0 rfl
              clear ho7 hb8 hb83 m1 m2 hx8
              (try go_wp2_with fail)
              refine hK.out _ _ ?_ (fun hHeld => ?_)
              · (first | exact e0 | exact e1 | exact e2 | exact e3 | exact e4 | exact e5 | exact e6 | exact e7)
              clear hK K
              try simp only [Act.put, List.setIfInBounds_toArray, List.set_cons_zero, List.set_cons_succ, List.getElem_toArray, List.getElem_cons_succ, List.getElem_cons_zero]
              refine wpAnyH_ready (rs := [9]) (by kernel_rfl) (by simp) ?_
              refine AllReadyH.cons (o := _) rfl (fun K hK => ?_) AllReadyH.nil
              try simp only [List.getElem_toArray, List.getElem_cons_succ, List.getElem_cons_zero]
              go_simp
              refine hK.out _ _ ?_ (fun hHeld => ?_)
              · (first | exact e0 | exact e1 | exact e2 | exact e3 | exact e4 | exact e5 | exact e6 | exact e7)
              clear hK K
              try simp only [Act.put, List.setIfInBounds_toArray, List.set_cons_zero, List.set_cons_succ, List.getElem_toArray, List.getElem_cons_succ, List.getElem_cons_zero]
              refine wpAnyH_ready (rs := [10]) (by kernel_rfl) (by simp) ?_
              refine AllReadyH.cons (o := _) rfl (fun K hK => ?_) AllReadyH.nil
              try simp (config := { proj := false }) only [List.getElem_toArray, List.getElem_cons_succ, List.getElem_cons_zero]
              refine step_appO1 eltXS (by rfl) _ _ (by rfl) _ w.heap.size A6 k c6 vs (by rfl) (by exact HRP.out) (.slice A7 n7 c7) (by rfl) (some ⟨w8.heap.size, 0, none⟩) 1 (by rfl) (by exact HRM.out) (by exact HKK.out) ?_
              intro A10 c10 w9 ho10 hc10 hf10
              obtain ⟨hx8, hx4, hst⟩ := HS83.out.addP HRP.out HIP.out HV83.out (by have := HN7.out; omega) HPST.out ho10 hc10 hf10
              have HS9 := Lib.hid hst
              have hxx := blk_ch HX83.out hc10 (fun hq => by obtain ⟨cs, h1⟩ := own_foP HRP.out hq; exact blk_ne HX83.out h1 (by decide) rfl)
              have e6 := And.intro (blk_cell hxx 0 rfl) (And.intro (blk_cell hxx 1 rfl) (blk_cell hx4 0 rfl))
              have hxy := blk_ch hxx (ch_set w9 B8 0 (.slice A10 (k + 1) c10)) (fun e => blk_ne hxx hx8 (by decide) e)
              have e7 := And.intro (blk_cell hxy 0 rfl) (And.intro (blk_cell hxy 1 rfl) (blk_cell hst.b4 0 rfl))
              have g6 := blk_cell hx8 0 rfl
              have f6 := blk_free hx8 0
              clear ho10 hc10 hf10
              refine hK.out _ _ ?_ (fun hHeld => ?_)
              · (first | exact e0 | exact e1 | exact e2 | exact e3 | exact e4 | exact e5 | exact e6 | exact e7)
              clear hK K
              try simp only [Act.put, List.setIfInBounds_toArray, List.set_cons_zero, List.set_cons_succ, List.getElem_toArray, List.getElem_cons_succ, List.getElem_cons_zero]
              refine wpAnyH_take (i := 11) (oi := _) (v := ?_) rfl (by kernel_rfl) (by kernel_rfl) (by kernel_rfl) (fun _ _ _ h => h) (Or.inl ⟨by rfl, ?_⟩) (by assumption) ?_
              rotate_left
              · intro wS hSw
                (try dsimp only at hSw)
                simp only [List.getElem_toArray, List.getElem_cons_succ, List.getElem_cons_zero]
                first | (go_simp; done) | (go_simp; with_reducible rfl)
              try simp only [Act.put, List.setIfInBounds_toArray, List.set_cons_zero, List.set_cons_succ, List.getElem_toArray, List.getElem_cons_succ, List.getElem_cons_zero]
              refine wpAnyH_ready (rs := [12]) (by kernel_rfl) (by simp) ?_
              refine AllReadyH.cons (o := _) rfl (fun K hK => ?_) AllReadyH.nil
              try simp only [List.getElem_toArray, List.getElem_cons_succ, List.getElem_cons_zero]
              go_simp
              refine hK.out _ _ ?_ (fun hHeld => ?_)
              · (first | exact e0 | exact e1 | exact e2 | exact e3 | exact e4 | exact e5 | exact e6 | exact e7)
              clear hK K
              try simp only [Act.put, List.setIfInBounds_toArray, List.set_cons_zero, List.set_cons_succ, List.getElem_toArray, List.getElem_cons_succ, List.getElem_cons_zero]
              refine wpAnyH_done (by kernel_rfl) ?_ _
              go_wp2_with fail
              go_roundw
              case rel => exact ⟨k + 1, A9, c9, A10, c10, by omega, by go_num, rfl, HS9⟩
              case measure => simp [intOf] <;> omega
            refine AllReadyH.cons (o := _) rfl (fun K hK => ?_) AllReadyH.nil
            try simp only [List.getElem_toArray, List.getElem_cons_succ, List.getElem_cons_zero]
            go_simp
            refine hK.out _ _ ?_ (fun hHeld => ?_)
            · (first | exact e0 | exact e1 | exact e2 | exact e3 | exact e4 | exact e5 | exact e6 | exact e7)
            clear hK K
            try simp only [Act.put, List.setIfInBounds_toArray, List.set_cons_zero, List.set_cons_succ, List.getElem_toArray, List.getElem_cons_succ, List.getElem_cons_zero]
            refine wpAnyH_ready (rs := [2]) (by kernel_rfl) (by simp) ?_
            refine AllReadyH.cons (o := _) rfl (fun K hK => ?_) AllReadyH.nil
            try simp only [List.getElem_toArray, List.getElem_cons_succ, List.getElem_cons_zero]
            go_simp
            refine hK.out _ _ ?_ (fun hHeld => ?_)
            · (first | exact e0 | exact e1 | exact e2 | exact e3 | exact e4 | exact e5 | exact e6 | exact e7)
            clear hK K
            try simp only [Act.put, List.setIfInBounds_toArray, List.set_cons_zero, List.set_cons_succ, List.getElem_toArray, List.getElem_cons_succ, List.getElem_cons_zero]
            refine wpAnyH_ready (rs := [3]) (by kernel_rfl) (by simp) ?_
            refine AllReadyH.cons (o := _) rfl (fun K hK => ?_) AllReadyH.nil
            try simp only [List.getElem_toArray, List.getElem_cons_succ, List.getElem_cons_zero]
            go_simp
            refine hK.out _ _ ?_ (fun hHeld => ?_)
            · (first | exact e0 | exact e1 | exact e2 | exact e3 | exact e4 | exact e5 | exact e6 | exact e7)
            clear hK K
            try simp only [Act.put, List.setIfInBounds_toArray, List.set_cons_zero, List.set_cons_succ, List.getElem_toArray, List.getElem_cons_succ, List.getElem_cons_zero]
            refine wpAnyH_ready (rs := [4]) (by kernel_rfl) (by simp) ?_
            refine AllReadyH.cons (o := _) rfl (fun K hK => ?_) AllReadyH.nil
            try simp (config := { proj := false }) only [List.getElem_toArray, List.getElem_cons_succ, List.getElem_cons_zero]
            refine step_appO1 eltXS (by rfl) _ _ (by rfl) _ w.heap.size A5 k c5 us (by rfl) (by exact HRS.out) (.slice (some ⟨w6.heap.size, 0, none⟩) 1 1) (by rfl) (some ⟨w6.heap.size + 1, 0, none⟩) 1 (by rfl) (by exact HRL.out) (by exact HKK.out) ?_
            intro A9 c9 w7 ho9 hc9 hf9
            have hc9b : Ch (Fo (.slice A5 k c5)) ((w6.alloc (.cells #[.int .i64 0, .int .i64 0] 110)).alloc (.cells #[.slice (some ⟨w6.heap.size, 0, none⟩) 1 1] 42)) w7 := ⟨hc9.os, hc9.tape, hc9.output, hc9.size, hc9.block⟩
            have HS7 := Lib.hid (HSA.out.addS HRS.out HIS.out HLV.out (by omega) HSST.out ho9 hc9b hf9)
            have hx7 := blk_ch HXA.out hc9b (fun hq => by obtain ⟨cs, h1⟩ := own_foP HRS.out hq; exact blk_ne HXA.out h1 (by decide) rfl)
            have HX7 := Lib.hid hx7
            have e3 := And.intro (blk_cell HX7.out 0 rfl) (And.intro (blk_cell HX7.out 1 rfl) (blk_cell HS7.out.b4 0 rfl))
            have g3 := blk_cell HS7.out.b8 0 rfl
            clear ho9 hc9 hf9 hc9b hx7
            refine hK.out _ _ ?_ (fun hHeld => ?_)
            · (first | exact e0 | exact e1 | exact e2 | exact e3 | exact e4 | exact e5 | exact e6 | exact e7)
            clear hK K
            try simp only [Act.put, List.setIfInBounds_toArray, List.set_cons_zero, List.set_cons_succ, List.getElem_toArray, List.getElem_cons_succ, List.getElem_cons_zero]
            refine wpAnyH_ready (rs := [8]) (by kernel_rfl) (by simp) ?_
            refine AllReadyH.cons (o := _) rfl (fun K hK => ?_) AllReadyH.nil
            try simp only [List.getElem_toArray, List.getElem_cons_succ, List.getElem_cons_zero]
            go_simp
            go_at_call 87
            refine (placeOf_any _ k N HKN.out.1 HKN.out.2).mono ?_
            rintro e w8 ⟨A7, n7, c7, rfl, ho7, hb8⟩
            have HS8 := Lib.hid (HS7.out.below hb8)
            have hb83 := below_new w8 (.cells #[.slice A7 n7 c7] 42)
            have HS83 : Hid (St2 w (w8.alloc (.cells #[.slice A7 n7 c7] 42)) w.heap.size B8 N (k + 1) k A9 c9 A6 c6) := Lib.hid (HS8.out.below hb83)
            obtain ⟨vs, m1, m2⟩ := HS83.out.p
            have HRP := Lib.hid m1; have HIP := Lib.hid m2
            have HV83 := Lib.hid (ownN_below ho7 hb83 (Nat.le_refl _))
            have HN7 : Hid (n7 ≤ 100) := Lib.hid (by have := own_el ho7; have := HPL.out; omega)
            have HRM : Hid (Rd (w8.alloc (.cells #[.slice A7 n7 c7] 42)) (some ⟨w8.heap.size, 0, none⟩) 1 [.slice A7 n7 c7]) := Lib.hid (own_rd (own_lit w8 #[.slice A7 n7 c7] 1 42 rfl (by omega)))
            have hx8 := blk_bel HX7.out hb8
            have HX83 := Lib.hid (blk_bel hx8 hb83)
            have e4 := And.intro (blk_cell hx8 0 rfl) (And.intro (blk_cell hx8 1 rfl) (blk_cell HS8.out.b4 0 rfl))
            have e5 := And.intro (blk_cell HX83.out 0 rfl) (And.intro (blk_cell HX83.out 1 rfl) (blk_cell HS83.out.b4 0 rfl))
            have g4 := blk_cell HS8.out.b8 0 rfl
            have g5 := blk_cell HS83.out.b8 0 rfl
            clear ho7 hb8 hb83 m1 m2 hx8
            (try go_wp2_with fail)
            refine hK.out _ _ ?_ (fun hHeld => ?_)
            · (first | exact e0 | exact e1 | exact e2 | exact e3 | exact e4 | exact e5 | exact e6 | exact e7)
            clear hK K
            try simp only [Act.put, List.setIfInBounds_toArray, List.set_cons_zero, List.set_cons_succ, List.getElem_toArray, List.getElem_cons_succ, List.getElem_cons_zero]
            refine wpAnyH_ready (rs := [9]) (by kernel_rfl) (by simp) ?_
            refine AllReadyH.cons (o := _) rfl (fun K hK => ?_) AllReadyH.nil
            try simp only [List.getElem_toArray, List.getElem_cons_succ, List.getElem_cons_zero]
            go_simp
            refine hK.out _ _ ?_ (fun hHeld => ?_)
            · (first | exact e0 | exact e1 | exact e2 | exact e3 | exact e4 | exact e5 | exact e6 | exact e7)
            clear hK K
            try simp only [Act.put, List.setIfInBounds_toArray, List.set_cons_zero, List.set_cons_succ, List.getElem_toArray, List.getElem_cons_succ, List.getElem_cons_zero]
            refine wpAnyH_ready (rs := [10]) (by kernel_rfl) (by simp) ?_
            refine AllReadyH.cons (o := _) rfl (fun K hK => ?_) AllReadyH.nil
            try simp (config := { proj := false }) only [List.getElem_toArray, List.getElem_cons_succ, List.getElem_cons_zero]
            refine step_appO1 eltXS (by rfl) _ _ (by rfl) _ w.heap.size A6 k c6 vs (by rfl) (by exact HRP.out) (.slice A7 n7 c7) (by rfl) (some ⟨w8.heap.size, 0, none⟩) 1 (by rfl) (by exact HRM.out) (by exact HKK.out) ?_
            intro A10 c10 w9 ho10 hc10 hf10
            obtain ⟨hx8, hx4, hst⟩ := HS83.out.addP HRP.out HIP.out HV83.out (by have := HN7.out; omega) HPST.out ho10 hc10 hf10
            have HS9 := Lib.hid hst
            have hxx := blk_ch HX83.out hc10 (fun hq => by obtain ⟨cs, h1⟩ := own_foP HRP.out hq; exact blk_ne HX83.out h1 (by decide) rfl)
            have e6 := And.intro (blk_cell hxx 0 rfl) (And.intro (blk_cell hxx 1 rfl) (blk_cell hx4 0 rfl))
            have hxy := blk_ch hxx (ch_set w9 B8 0 (.slice A10 (k + 1) c10)) (fun e => blk_ne hxx hx8 (by decide) e)
            have e7 := And.intro (blk_cell hxy 0 rfl) (And.intro (blk_cell hxy 1 rfl) (blk_cell hst.b4 0 rfl))
            have g6 := blk_cell hx8 0 rfl
            have f6 := blk_free hx8 0
            clear ho10 hc10 hf10
            refine hK.out _ _ ?_ (fun hHeld => ?_)
            · (first | exact e0 | exact e1 | exact e2 | exact e3 | exact e4 | exact e5 | exact e6 | exact e7)
            clear hK K
            try simp only [Act.put, List.setIfInBounds_toArray, List.set_cons_zero, List.set_cons_succ, List.getElem_toArray, List.getElem_cons_succ, List.getElem_cons_zero]
            refine wpAnyH_take (i := 11) (oi := _) (v := ?_) rfl (by kernel_rfl) (by kernel_rfl) (by kernel_rfl) (fun _ _ _ h => h) (Or.inl ⟨by rfl, ?_⟩) (by assumption) ?_
            rotate_left
            · intro wS hSw
              (try dsimp only at hSw)
              simp only [List.getElem_toArray, List.getElem_cons_succ, List.getElem_cons_zero]
              first | (go_simp; done) | (go_simp; with_reducible rfl)
            try simp only [Act.put, List.setIfInBounds_toArray, List.set_cons_zero, List.set_cons_succ, List.getElem_toArray, List.getElem_cons_succ, List.getElem_cons_zero]
            refine wpAnyH_ready (rs := [12]) (by kernel_rfl) (by simp) ?_
            refine AllReadyH.cons (o := _) rfl (fun K hK => ?_) AllReadyH.nil
            try simp only [List.getElem_toArray, List.getElem_cons_succ, List.getElem_cons_zero]
            go_simp
            refine hK.out _ _ ?_ (fun hHeld => ?_)
            · (first | exact e0 | exact e1 | exact e2 | exact e3 | exact e4 | exact e5 | exact e6 | exact e7)
            clear hK K
            try simp only [Act.put, List.setIfInBounds_toArray, List.set_cons_zero, List.set_cons_succ, List.getElem_toArray, List.getElem_cons_succ, List.getElem_cons_zero]
            refine wpAnyH_done (by kernel_rfl) ?_ _
            go_wp2_with fail
            go_roundw
            case rel => exact ⟨k + 1, A9, c9, A10, c10, by omega, by go_num, rfl, HS9⟩
            case measure => simp [intOf] <;> omega
        · obtain rfl : k = N := by omega
          have HTK : Hid ((startE k).take k = startE k) := Lib.hid (List.take_of_length_le (by rw [startE_len]; omega))
          have HTP : Hid ((placesE k).take k = placesE k) := Lib.hid (List.take_of_length_le (by rw [places_len]; omega))
          have hse : ∃ e f r, startE k = e :: f :: r := by
            have h1 := startE_len k
            have h2 := HN.out.1
            match hh : startE k with
            | [] => rw [hh] at h1; simp at h1; omega
            | [_] => rw [hh] at h1; simp at h1; omega
            | e :: f :: r => exact ⟨e, f, r, rfl⟩
          obtain ⟨e, f, r, hse⟩ := hse
          have hrd := HS.out.s.rdy
          rw [HTK.out, hse] at hrd
          have hpk := packed2_any e f r wr A5 k c5 hrd HS.out.s.cap (by have := HN.out; omega) (by rw [← hse]; have := start_sum k; have := HN.out; omega)
          rw [← hse] at hpk
          have HPK := Lib.hid hpk
          have HPKL : Hid ((packE (startE k)).length ≤ 100) := Lib.hid (by have := packE_len (startE k); have := start_sum k; have := startE_len k; have := HN.out; omega)
          clear hse hrd hpk
          go_upto_region 19 with (first
            | (go_at_call 89
               refine HPK.out.mono ?_
               rintro e w6 ⟨A7, n7, c7, rfl, ho7, hb7⟩
               have HV7 := Lib.hid ho7
               have HS7 := Lib.hid (HS.out.below hb7)
               have HN7 : Hid (n7 ≤ 100) := Lib.hid (by have := own_el ho7; have := HPKL.out; omega)
               clear ho7 hb7)
            | (go_at_call 88
               refine (setTo_any w6 0 A7 n7 c7).mono ?_
               rintro e w8 ⟨rfl, hb8⟩
               have HV8 := Lib.hid (ownN_below HV7.out hb8 (Nat.le_refl _))
               have HS8 := Lib.hid (HS7.out.below hb8)
               clear hb8))
          obtain ⟨w9, hw9⟩ : ∃ w9, w9 = w8.alloc (.cells #[.int .i64 0, .int .i64 0, .int .i64 0, .slice A7 n7 c7] 44) := ⟨_, rfl⟩
          have hb9 := below_new w8 (.cells #[.int .i64 0, .int .i64 0, .int .i64 0, .slice A7 n7 c7] 44)
          rw [← hw9] at hb9
          have HS9 := Lib.hid (HS8.out.below hb9)
          have HO9 : Hid (OutC w9 w.heap.size (some ⟨w8.heap.size, 0, none⟩) 1 1 [⟨0, 0, 0, packE (startE k)⟩]) := Lib.hid (by rw [hw9]; exact (OutC.one HV8.out (by have := HN7.out; omega)).base HS8.out.bel.size)
          have hlp := HS9.out.p
          rw [HTP.out] at hlp
          have HMP := Lib.hid (mapped_any w9 A n c cs (HR.out.below HS9.out.bel (Nat.le_refl _)) HOK.out HNN.out k HN.out HVX.out w.heap.size B8 A6 c6 w.heap.size HS9.out.b4 HS9.out.b8 hlp)
          have HB9 : Hid (Below w.heap.size w w9) := Lib.hid HS9.out.bel
          rw [← hw9]
          clear hw9 hb9 hlp
          go_upto_region 20 with (first
            | (go_at_call 90
               refine HMP.out.mono ?_
               rintro e w10 ⟨A8, c8, rfl, ho8, hb10⟩
               obtain ⟨us1, l1, l2⟩ := HO9.out.below hb10
               obtain ⟨us2, l3, l4⟩ := ho8
               have HL1 := Lib.hid l1; have HL2 := Lib.hid l2; have HL3 := Lib.hid (ownN_rd l3); have HL4 := Lib.hid l4
               have HB10 : Hid (Below w.heap.size w w10) := Lib.hid (bqcP hb10 HB9.out)
               clear hb10 l1 l2 l3 l4)
            | (at_builtin; go_must (refine wpList_appSN eltCm rfl _ _ rfl w10 w.heap.size (.slice (some ⟨w8.heap.size, 0, none⟩) 1 1) 1 _ (by rfl) HL1.out A8 n c8 _ (by rfl) HL3.out (flatC_one _ _ HL4.out.one4) HB10.out.size (by have := HNN.out; omega) ?_); rintro A11 c11 w11 ho11 hb11 hg11
               have HO11 : Hid (OutC w11 w.heap.size A11 (1 + n) c11 ([⟨0, 0, 0, packE (startE k)⟩] ++ cs.map (oneC k))) := Lib.hid (OutC.appS HL1.out HL2.out HL4.out ho11 hg11)
               have HB11 : Hid (Below w.heap.size w w11) := Lib.hid (HB10.out.trans hb11)
               clear ho11 hb11 hg11))
          obtain ⟨wb, hwb⟩ : ∃ wb, wb = w11.alloc (.cells #[.int .i64 3, .int .i64 0, .int .i64 1, .int .i64 0] 110) := ⟨_, rfl⟩
          have HBB : Hid (Below w11.heap.size w11 wb) := Lib.hid (by rw [hwb]; exact below_new _ _)
          have HVB : Hid (wb.ownsRow w11.heap.size 110 2 (.slice (some ⟨w11.heap.size, 0, none⟩) 2 2) 2 (ints (eNums [(3, 0), (1, 0)]))) := Lib.hid (by rw [hwb]; exact ownN_lit w11 #[.int .i64 3, .int .i64 0, .int .i64 1, .int .i64 0] 2 2 110 rfl (by omega))
          have HWB := Lib.hid hwb
          have HII : Hid (1 + n ≤ 1099511627776) := Lib.hid (by have := HNN.out; omega)
          clear hwb
          go_upto_region 21 with (first
            | (go_at_call 88
               rw [← HWB.out]
               refine (setTo_any wb 0 _ 2 2).mono ?_
               rintro e w12 ⟨rfl, hb⟩
               have HV12 := Lib.hid (ownN_below HVB.out hb (Nat.le_refl _))
               have HB12 : Hid (Below w.heap.size w w12) := Lib.hid (bqcP (HBB.out.trans (hb.mono HBB.out.size)) HB11.out)
               obtain ⟨us, l1, l2⟩ := (HO11.out.below HBB.out).below hb
               have HLO := Lib.hid l1; have HLI := Lib.hid l2
               clear hb l1 l2)
            | (at_builtin; go_must (refine wpList_app1N eltCm rfl _ _ rfl w12 w.heap.size (.slice A11 (1 + n) c11) (1 + n) (flatC _ us) (by rfl) HLO.out #[.int .i64 0, .int .i64 0, .int .i64 0, .slice (some ⟨w11.heap.size, 0, none⟩) 2 2] rfl (one4V _ _ _ _ _ _) (by rfl) HB12.out.size HII.out ?_); rintro A13 c13 w13 ho13 hb13 hg13
               have HO13 : Hid (OutC w13 w.heap.size A13 (1 + n + 1) c13 (([⟨0, 0, 0, packE (startE k)⟩] ++ cs.map (oneC k)) ++ [⟨0, 0, 0, [(3, 0), (1, 0)]⟩])) := Lib.hid (OutC.app1 (x := ⟨0, 0, 0, [(3, 0), (1, 0)]⟩) HLO.out HLI.out HV12.out (by omega) ho13 hg13)
               have HB13 : Hid (Below w.heap.size w w13) := Lib.hid (HB12.out.trans hb13)
               clear ho13 hb13 hg13))
          have HOV : Hid (OutC w13 w.heap.size A13 (1 + n + 1) c13 (oneW cs)) := Lib.hid (by rw [← HEQ.out]; exact HO13.out)
          have hvw := ValidWhileX_any w13 A13 (1 + n + 1) c13 (oneW cs) HOV.out.rdc (by have := HNN.out; omega) HOV.out.cap
          obtain ⟨bo, hbo⟩ : ∃ b, b = isW (oneW cs) := ⟨_, rfl⟩
          rw [← hbo] at hvw
          have HBO := Lib.hid hbo
          have HVW := Lib.hid hvw
          clear hbo hvw
          cases bo with
          | false =>
            go_wp2_with (go_at_call 94
                         refine HVW.out.mono ?_
                         rintro e w14 ⟨rfl, hb14⟩
                         have HB14 : Hid (Below w.heap.size w w14) := Lib.hid (bqcP hb14 HB13.out)
                         clear hb14)
            go_ret2
            exact ⟨none, 0, 0, 5, rfl, (by rw [← HBO.out]; rfl), (fun h => absurd h (by decide)), HB14.out⟩
          | true =>
            go_wp2_with (go_at_call 94
                         refine HVW.out.mono ?_
                         rintro e w14 ⟨rfl, hb14⟩
                         have HO14 := Lib.hid (HOV.out.below hb14)
                         have HB14 : Hid (Below w.heap.size w w14) := Lib.hid (bqcP hb14 HB13.out)
                         clear hb14)
            go_ret2
            exact ⟨A13, 1 + n + 1, c13, 0, rfl, (by rw [← HBO.out]; rfl), fun _ => ⟨HO14.out.rdc, HO14.out.cap⟩, HB14.out⟩
end Go.Proofs.YtadmbphefpfbmaaGreatDoor
