/- Texts in one file: Nn, Is. -/
import Derived.Test.YtanicbbgneobpaaGreatGF
import Derived.Test.YtanicbbgneobpaaGreatGI
/- The contexts that can follow (reference). Written by mk_nn.py. -/
namespace Go.Proofs.YtanicbbgneobpaaGreat
open Go.RowKit
set_option linter.unusedVariables false
set_option linter.unusedSimpArgs false
/-- 'append(s, t...)' in a plain region, by footprint. -/
theorem wpList_appOz {P : Program} {ops : Array Oper} {rest : List Oper} {o : Oper} {a : Act} {Q : Exit → Act → World → Prop} {t e : TypeId} {z : Value} (hE : Elt P t e z) (hgd : o.guard = none) (s x : Operand)
    (ho : o.op = .call { callee := .builtin .append, args := #[s, x], argTypes := #[t, t] }) (W : World) (base : Nat) (A A0 : Option Addr) (n c m c0 : Nat) (vs us : List Value) (hs : a.eval s = .slice A n c) (hown : W.ownsRow base e 1 (.slice A n c) n vs)
    (hx : a.eval x = .slice A0 m c0) (hr : Rd W A0 m us) (hu : ∀ u ∈ us, u.oneCell' = true) (hn : n + m ≤ 1099511627776)
    (h : ∀ A' c' w', w'.ownsRow 0 e 1 (.slice A' (n + m) c') (n + m) (vs ++ us) → Ch (Fo (.slice A n c)) W w' → (∀ k, Fo (.slice A' (n + m) c') k → Fo (.slice A n c) k ∨ W.heap.size ≤ k) → wpList P ops Q rest (a.put o.dst (.slice A' (n + m) c')) w') :
    wpList P ops Q (o :: rest) a W := by
  obtain ⟨A', c', w', hrun, k1, k2, k3⟩ := run_appOz (ty := o.type) (c0 := c0) hE hown hr hu hn
  refine wpList_plain hgd fun K hK => ?_
  unfold Oper.wp execOp
  simp only [ho, resolve, invoke, builtin, Sem.run_bind, Sem.run_pure, Result.andThen_ok, List.map_toArray, List.map_cons, List.map_nil, hs, hx, hrun]
  exact hK _ _ (h A' c' w' k1 k2 k3)
/-- A row of numbers of the call's own, above a block. -/
structure Row (w0 w : World) (A : Option Addr) (n c : Nat) (xs : List Int) : Prop where
  own : w.ownsRow 0 2 1 (.slice A n c) n (ints xs)
  lo : ∀ q, Fo (.slice A n c) q → w0.heap.size ≤ q
  bel : Below w0.heap.size w0 w
section
variable {w0 w w' w2 w3 : World} {A A' : Option Addr} {n c n' c' : Nat} {xs ys : List Int} {x : Int}
theorem Row.of (ho : w.ownsRow w0.heap.size 2 1 (.slice A n c) n (ints xs)) (hb : Below w0.heap.size w0 w) : Row w0 w A n c xs := ⟨ownN_base ho (Nat.zero_le _), fun q hq => (ho.lt q hq).1, hb⟩
theorem Row.below (h : Row w0 w A n c xs) (hb : Below w.heap.size w w') : Row w0 w' A n c xs := ⟨ownN_below h.own hb (Nat.le_refl _), h.lo, h.bel.trans (hb.mono h.bel.size)⟩
theorem Row.grow (h : Row w0 w A n c xs) (ho : w'.ownsRow 0 2 1 (.slice A' n' c') n' (ints xs ++ ints ys)) (hc : Ch (Fo (.slice A n c)) w w') (hf : ∀ q, Fo (.slice A' n' c') q → Fo (.slice A n c) q ∨ w.heap.size ≤ q) : Row w0 w' A' n' c' (xs ++ ys) :=
  ⟨by rw [show ints (xs ++ ys) = ints xs ++ ints ys from List.map_append]; exact ho, fun q hq => (hf q hq).elim (h.lo q) (fun h2 => Nat.le_trans h.bel.size h2), below_ch h.bel hc h.lo h.bel.size⟩
theorem Row.base (h : Row w0 w A n c xs) : w.ownsRow w0.heap.size 2 1 (.slice A n c) n (ints xs) := own_up2 h.own h.lo
theorem Row.len (h : Row w0 w A n c xs) : xs.length = n := by have h1 := h.own.1; simpa using h1
theorem Row.bd (h : Row w0 w A n c xs) {b : Nat} (hb : xs.length ≤ b) : n ≤ b := by rw [← h.len]; exact hb
end
theorem OwnX.put {w w2 w4 : World} {A A4 : Option Addr} {m c c4 n2 c2 : Nat} {A2 : Option Addr} {us : List Value} {xss : List (List Int)} {ys : List Int} (h : OwnX w A m c us xss) (hr : Row w w2 A2 n2 c2 ys) (hn : n2 ≤ 1000000000) (ho4 : w4.ownsRow 0 25 1 (.slice A4 (m + 1) c4) (m + 1) (us ++ [.slice A2 n2 c2])) (hc4 : Ch (Fo (.slice A m c)) w2 w4) (hf : ∀ q, Fo (.slice A4 (m + 1) c4) q → Fo (.slice A m c) q ∨ w2.heap.size ≤ q) : OwnX w4 A4 (m + 1) c4 (us ++ [.slice A2 n2 c2]) (xss ++ [ys]) ∧ ∀ q, FX A4 (m + 1) c4 (us ++ [.slice A2 n2 c2]) q → FX A m c us q ∨ w.heap.size ≤ q :=
  h.step hr.bel hr.base hn ho4 hc4 hf
/-- What the walk through the symbols has. -/
structure NS (w0 wr : World) (A3 : Option Addr) (n3 c3 : Nat) (bh : List Int) (A : Option Addr) (m c : Nat) (us : List Value) (xss : List (List Int)) : Prop where
  out : OwnX wr A m c us xss
  lo : ∀ q, FX A m c us q → w0.heap.size ≤ q
  beh : Row w0 wr A3 n3 c3 bh
theorem NS.below {w0 wr w' : World} {A3 A : Option Addr} {n3 c3 m c : Nat} {bh : List Int} {us : List Value} {xss : List (List Int)} (h : NS w0 wr A3 n3 c3 bh A m c us xss) (hb : Below wr.heap.size wr w') : NS w0 w' A3 n3 c3 bh A m c us xss := ⟨h.out.below hb, h.lo, h.beh.below hb⟩
theorem NS.put {w0 w w2 w4 : World} {A3 A A4 A2 : Option Addr} {n3 c3 m c c4 n2 c2 : Nat} {bh ys : List Int} {us : List Value} {xss : List (List Int)} (h : NS w0 w A3 n3 c3 bh A m c us xss) (hr : Row w w2 A2 n2 c2 ys) (hn : n2 ≤ 1000000000) (ho4 : w4.ownsRow 0 25 1 (.slice A4 (m + 1) c4) (m + 1) (us ++ [.slice A2 n2 c2])) (hc4 : Ch (Fo (.slice A m c)) w2 w4) (hf : ∀ q, Fo (.slice A4 (m + 1) c4) q → Fo (.slice A m c) q ∨ w2.heap.size ≤ q) : NS w0 w4 A3 n3 c3 bh A4 (m + 1) c4 (us ++ [.slice A2 n2 c2]) (xss ++ [ys]) := by
  obtain ⟨h1, h2⟩ := h.out.put hr hn ho4 hc4 hf
  have hb := h.beh.below hr.bel
  exact ⟨h1, fun q hq => (h2 q hq).elim (h.lo q) (fun h3 => Nat.le_trans h.beh.bel.size h3), ⟨own_ch hb.own hc4 (fun q a b => own_types2 (ownN_below h.out.1 hr.bel (Nat.le_refl _)) hb.own (by decide) q b a), hb.lo, below_ch hb.bel hc4 (fun q hq => h.lo q (.inl hq)) hb.bel.size⟩⟩
theorem drpn_e {w w' : World} {v : Value} {e : Ending} (h : DrP w v e w') : e = .returned v ∧ Below w.heap.size w w' := by
  obtain ⟨h1, m, h2⟩ := h
  exact ⟨h1, by rw [h2]; exact below_drewN (Below.refl _ _)⟩
theorem ch_undrN {F : Nat → Prop} {w w' : World} (h : Ch F w.drew w') : Ch F w w' := ⟨h.os, h.tape, h.output, h.size, h.block⟩
set_option maxHeartbeats 16000000 in
set_option maxRecDepth 100000 in
theorem l29Next_r (w : World) (g : Nat) (s : Nat) (t : Int) (A : Option Addr) (n c : Nat) (hm : BM w g s t A n c) (hs : s ≤ 6) (ra rc : Int) (A1 : Option Addr) (n1 c1 h : Nat) (xs : List Int) (hr1 : Rd w A1 n1 (ints xs)) (hc1 : n1 ≤ c1) (hn1 : n1 = 2 * h + 1) (hh : 1 ≤ h ∧ h ≤ 4) (A2 : Option Addr) (n2 c2 : Nat) (ws : List (List Int)) (hr2 : RdL w A2 n2 ws) (hn2 : n2 ≤ 1000000000) (f0 : Int) (F bh P Q : List Int)
    (hF : xs.drop (h + 1) = f0 :: F) (hbh : bh = ra :: (xs.take h).take (h - 1)) (hP : P = bh ++ [f0]) (hQ : Q = []) :
    Calls Tryz.prog 122 #[.pointer (some ⟨g, 0, none⟩), rulV ⟨ra, 1, rc⟩, .slice A1 n1 c1, .slice A2 n2 c2] w (RetP w (nx P F Q ws s)) := by
  obtain ⟨w0, hw0⟩ : ∃ w0, w0 = w.alloc (.cells #[.int .i64 ra, .int .i64 (1), .int .i64 rc] 97) := ⟨_, rfl⟩
  have hB : Below w.heap.size w w0 := by rw [hw0]; exact below_new w _
  have hx0 : w0.heap[w.heap.size]? = some (.cells #[.int .i64 ra, .int .i64 (1), .int .i64 rc] 97 (0, 0)) := by rw [hw0]; exact box_new w _ _
  have hl : xs.length = n1 := by simpa using hr1.1
  have ed : Int.tdiv (n1 : Int) 2 = (h : Int) := by rw [Int.tdiv_eq_ediv_of_nonneg (by omega)]; omega
  have hwh : IntKind.i64.wrap ((h : Int) + 1) = (h : Int) + 1 := IntWalk.i64_in _ (by omega)
  have hwm : IntKind.i64.wrap ((h : Int) - 1) = ((h - 1 : Nat) : Int) := by rw [IntWalk.i64_in _ (by omega)]; omega
  have hcn := fun (w : World) => run_cutH Tryz.underlying25 Tryz.szI w A1 n1 c1 h (h : Int) .i64 rfl (by omega)
  have hcf := fun (w : World) => run_cutF Tryz.underlying25 Tryz.szI w A1 n1 c1 (h + 1) ((h : Int) + 1) .i64 (by push_cast; rfl) (by omega)
  have e1 : n1 - (h + 1) = h := by omega
  rw [e1] at hcf
  have hrN : Rd w A1 h (ints (xs.take h)) := by have h := hr1.take h (by omega); rwa [← List.map_take] at h
  have hrF : Rd w (cutA A1 (h + 1) c1 1) h (ints (xs.drop (h + 1))) := by have h := hr1.cut (h + 1) c1 (by omega) hc1; rwa [e1, ← List.map_drop] at h
  have hcap : h ≤ c1 - (h + 1) := by omega
  have hcap1 : h ≤ c1 := by omega
  generalize cutA A1 (h + 1) c1 1 = Af at *
  generalize c1 - (h + 1) = cf at *
  have hrn : Rd w A1 (h - 1) (ints ((xs.take h).take (h - 1))) := by have h := hrN.take (h - 1) (by omega); rwa [← List.map_take] at h
  have hcb := fun (w : World) => run_cutH Tryz.underlying25 Tryz.szI w A1 h c1 (h - 1) ((h - 1 : Nat) : Int) .i64 rfl (by omega)
  have hct := fun (w : World) => run_cutF Tryz.underlying25 Tryz.szI w Af h cf 1 1 .i64 rfl (by omega)
  have hrf0 := hrF
  rw [hF] at hrf0
  have hrT : Rd w (cutA Af 1 cf 1) (h - 1) (ints F) := by have h := hrf0.cut 1 cf (by omega) (by omega); simpa using h
  have hFl : F.length = h - 1 := by have h1 := hrf0.1; simp at h1; omega
  obtain ⟨bf, ff, hfa, hbf, qf⟩ := hrf0.at_ (ints_get (xs := f0 :: F) (k := 0) (x := f0) rfl)
  simp only [Nat.add_zero] at qf
  subst hfa
  generalize cutA (some ⟨bf, ff, none⟩) 1 cf 1 = At at *
  have hbl : bh.length = h := by rw [hbh]; simp [List.length_take, hl]; omega
  have HBL := Lib.hid hbl; have HFL := Lib.hid hFl
  have HEY0 : Hid (∀ j : Nat, bh ++ [f0] ++ (F ++ [(j : Int)]) = P ++ F ++ [(j : Int)] ++ Q) := Lib.hid (fun j => by rw [hP, hQ]; simp)
  have HBF : Hid (bf < w0.heap.size) := Lib.hid (Nat.lt_of_lt_of_le hbf hB.size)
  have QF := Lib.hid ((hB.cell (p := ⟨bf, ff, none⟩) hbf).trans qf)
  have HRT := Lib.hid (hrT.below hB (Nat.le_refl _))
  have HRN : Hid (Rd w0 A1 (h - 1) (ints ((xs.take h).take (h - 1)))) := Lib.hid (hrn.below hB (Nat.le_refl _))
  have HM := Lib.hid (blk_bel hm hB : BM w0 g s t A n c)
  have HR2 := Lib.hid (hr2.below hB (Nat.le_refl _))
  have HB := Lib.hid hB
  have HBH := Lib.hid hbh
  have z0 := blk_cell hx0 0 rfl
  have z1 := blk_cell hx0 1 rfl
  have HX0 := Lib.hid hx0
  have hmv : ((1 : Int) < 0) = False := by decide
  have HU2 : Hid (∀ x, ∀ u ∈ [Value.int .i64 x], u.oneCell' = true) := Lib.hid (by simp [Value.oneCell'])
  have HHM : Hid (h - 1 ≤ 3 ∧ h ≤ 4) := Lib.hid (by omega)
  have HH1 : Hid (1 + (h - 1) ≤ 1099511627776) := Lib.hid (by omega)
  have HH2 : Hid (h - 1 ≤ 1000000000) := Lib.hid (by omega)
  have h1le : (1 : Int) ≤ (h : Int) := by omega
  have i2 : (h : Int) ≤ 4 := by omega
  have i2' : h < n1 := by omega
  have j0 : (0 : Int) ≤ (h : Int) + 1 := by omega
  have j1 : (h : Int) + 1 ≤ (n1 : Int) := by omega
  have j2 : h + 1 ≤ n1 := by omega
  have j3 : (h : Int) ≤ (c1 : Int) := by omega
  have j4 : h ≤ c1 := by omega
  have j5 : h - 1 ≤ 3 := by omega
  have j6 : h ≤ cf := by omega
  have j7 : h - 1 ≤ cf := by omega
  have j8 : h - 1 ≤ c1 := by omega
  generalize hhm : h - 1 = hm1 at *
  clear hB hx0 hm hr1 hr2 hrN hrF hrn hrf0 hrT hF hbh hP hQ qf hbf hFl hbl hl hhm e1 hn1 hc1 hh hcap hcap1
  go_enter Tryz.func122, Tryz.ntmps122
  go_upto_region 1 with fail
  rw [← hw0]
  clear hw0
  as_aux_lemma =>
  go_wp2_with fail
  (first
    | (go_region_law (first
        | (refine step_appOz Tryz.eltI (by rfl) (.tmp 39) (.tmp 43) (by rfl) _ 0 (some ⟨w0.heap.size, 0, none⟩) _ 1 1 hm1 _ [.int .i64 ra] _ (by rfl) (by first | exact tmp1 _ _ _ | exact tmp_new _ _ _) (by rfl) (by have h := HRN.out.below (below_drew1 (below_new w0 (.cells #[.int .i64 ra] 2))) (Nat.le_refl _); exact h) (by exact ints_one) (by exact HH1.out) ?_
           intro A3 c3 w3 ho3 hch3 hfo3
           have HR3 : Hid (Row w0 w3 A3 (1 + hm1) c3 bh) := Lib.hid (by
             have hz : Row w0 (w0.alloc (.cells #[.int .i64 ra] 2)) (some ⟨w0.heap.size, 0, none⟩) 1 1 [ra] := Row.of (own_lit w0 #[.int .i64 ra] 1 2 rfl (by omega)) (below_new _ _)
             have h := hz.grow (w' := w3) ho3 (ch_undrN hch3) hfo3
             rw [HBH.out]; exact h)
           clear ho3 hch3 hfo3)))
    | fail)
  all_goals
    as_aux_lemma =>
    generalize 1 + hm1 = n3 at *
    clear z0 hcb hcn hcf
    have hz3 := blk_bel HX0.out HR3.out.bel
    have z1 := blk_cell hz3 1 rfl
    clear hz3
    go_upto_region 9 with fail
    obtain ⟨w4, hw4⟩ : ∃ w4, w4 = w3.alloc (.cells #[] 25) := ⟨_, rfl⟩
    have HNS : Hid (NS w0 w4 A3 n3 c3 bh (some ⟨w3.heap.size, 0, none⟩) 0 0 [] (nx P F Q ws 0)) := Lib.hid (by
      rw [hw4]
      have ho := own_lit w3 #[] 0 25 rfl (by omega)
      refine ⟨⟨ownN_base ho (Nat.zero_le _), InnerP.nil _ _⟩, fun q hq => ?_, HR3.out.below (below_new _ _)⟩
      rcases hq with hq | ⟨u, hu, _⟩
      · have h1 := (ho.lt q hq).1; have h2 := HR3.out.bel.size; omega
      · simp at hu)
    rw [← hw4]
    clear hw4 z1 HR3
    as_aux_lemma =>
    go_wp2_with fail
    go_loopw [13, 14] (fun qo qx wr => ∃ (j m : Nat) (A : Option Addr) (c : Nat) (us : List Value), j ≤ s ∧ qx = .int .i64 j ∧ qo = .slice A m c ∧ NS w0 wr A3 n3 c3 bh A m c us (nx P F Q ws j)) (fun _ qx _ => s - (intOf qx).toNat)
    case atStart => exact ⟨0, 0, _, _, _, by omega, rfl, rfl, HNS.out⟩
    case round =>
      as_aux_lemma =>
      obtain ⟨j, m, A, c, us, hj, rfl, rfl, hns⟩ := hrel
      have hbw := hns.beh.bel
      have HN := Lib.hid hns
      have HBW := Lib.hid hbw
      have HMJ : Hid (m ≤ 1000000) := Lib.hid (by have h1 := hns.out.ownp.len; have h2 := nx_len P F Q ws j; omega)
      have hmr := blk_bel HM.out hbw
      have y0 := blk_cell hmr 0 rfl
      clear hns hmr hbw
      by_cases hlt : j < s
      · as_aux_lemma =>
        have hlt' : (j : Int) < (s : Int) := by omega
        have hwj : IntKind.i64.wrap ((j : Int) + 1) = (j : Int) + 1 := IntWalk.i64_in _ (by omega)
        go_wp2_with fail
        refine (l00Own_any _ At hm1 _ F (HRT.out.below HBW.out (Nat.le_refl _)) HH2.out).mono ?_
        rintro e w5 ⟨A5, k5, c5, rfl, ho5, hb5⟩
        have HR5 : Hid (Row wr w5 A5 k5 c5 F) := Lib.hid (Row.of ho5 hb5)
        have HK5 : Hid (k5 ≤ 1000000000) := Lib.hid (HR5.out.bd (by rw [HFL.out]; exact HH2.out))
        clear ho5 hb5
        go_upto_region 13 with (at_builtin; go_must (refine wpList_app1O Tryz.eltI rfl _ _ rfl w5 0 A5 k5 c5 (ints F) (by rfl) HR5.out.own (.int .i64 j) rfl (by rfl) HK5.out ?_); intro A6 c6 w6 ho6 hch6 hfo6)
        have HR6 : Hid (Row wr w6 A6 (k5 + 1) c6 (F ++ [(j : Int)])) := Lib.hid (HR5.out.grow (ys := [(j : Int)]) ho6 hch6 hfo6)
        have HK6 : Hid (k5 + 1 ≤ 1000000000) := Lib.hid (by have h := HR6.out.bd (b := 1000) (by have h1 := HFL.out; have h2 := HHM.out; simp; omega); omega)
        clear ho6 hch6 hfo6 y0
        as_aux_lemma =>
        go_wp2_with fail
        refine (l29Has_any _ A2 n2 c2 ws (HR2.out.below (HBW.out.trans (HR6.out.bel.mono HBW.out.size)) (Nat.le_refl _)) hn2 A6 (k5 + 1) c6 (F ++ [(j : Int)]) (own_rd HR6.out.own) HK6.out).mono ?_
        rintro e w8 hdr
        obtain ⟨rfl, hb8⟩ := drpn_e hdr
        clear hdr
        have HBR : Hid (Below wr.heap.size wr w8) := Lib.hid (HR6.out.bel.trans (hb8.mono HR6.out.bel.size))
        have HRR : Hid (Row wr w8 A6 (k5 + 1) c6 (F ++ [(j : Int)])) := Lib.hid (HR6.out.below hb8)
        clear hb8
        by_cases hin : F ++ [(j : Int)] ∈ ws
        · have HIN := Lib.hid hin
          rw [decide_eq_true hin]
          clear hin
          as_aux_lemma =>
          go_upto_region 15 with fail
          obtain ⟨w9, hw9⟩ : ∃ w9, w9 = w8.alloc (.cells #[] 2) := ⟨_, rfl⟩
          have h89 : Below w8.heap.size w8 w9 := by rw [hw9]; exact below_new w8 _
          have HB19 := Lib.hid (HBR.out.trans (h89.mono HBR.out.size))
          have HR9 : Hid (Row wr w9 A6 (k5 + 1) c6 (F ++ [(j : Int)])) := Lib.hid (HRR.out.below h89)
          have HN9 : Hid (NS w0 w9 A3 n3 c3 bh A m c us (nx P F Q ws j)) := Lib.hid (HN.out.below HB19.out)
          have HB9 : Hid (Row w0 w9 A3 n3 c3 bh) := Lib.hid HN9.out.beh
          have HBW9 : Hid (Below w0.heap.size w0 w9) := Lib.hid HB9.out.bel
          have HEY := Lib.hid (HEY0.out j)
          have HYF : Hid ((bh).length ≤ 1000) := Lib.hid (by have h1 := HBL.out; have h2 := HFL.out; have h3 := HHM.out; first | (rw [h1]; omega) | (simp; omega))
          have HKF : Hid (n3 ≤ 1000000000) := Lib.hid (by have h := HB9.out.bd HYF.out; omega)
          have HKS : Hid (k5 + 1 ≤ 1000) := Lib.hid (HR9.out.bd (by have h1 := HBL.out; have h2 := HFL.out; have h3 := HHM.out; first | (rw [h1]; omega) | (simp; omega)))
          have HYL : Hid ((bh ++ [f0] ++ (F ++ [(j : Int)])).length ≤ 1000) := Lib.hid (by have h1 := HBL.out; have h2 := HFL.out; have h3 := HHM.out; simp; omega)
          have hz9 := blk_bel HX0.out HBW9.out
          have z1 := blk_cell hz9 1 rfl
          have qf9 := (HBW9.out.cell (p := ⟨bf, ff, none⟩) HBF.out).trans QF.out
          have h0h : (0 : Int) < (h : Int) := by omega
          have h0h' : 0 < h := by omega
          rw [← hw9]
          clear hw9 h89 hz9 HBR HRR HR6 HR5
          as_aux_lemma =>
          go_wp2_with fail
          (first
            | (go_region_law (first
                | (have hq := HR7.out
                   clear hq
                   refine step_appOz Tryz.eltI (by rfl) (.tmp 69) (.tmp 73) (by rfl) _ 0 A7 _ k7 c7 1 _ (ints bh) [.int .i64 f0] (by rfl) (by first | with_reducible exact (HR7.out.below (below_new _ _)).own | with_reducible exact HR7.out.own | exact (HR7.out.below (below_drew1 (below_new _ _))).own) (by rfl) (by first | exact own_rd (base := 0) (c := 1) (e := 2) HTM.out | exact own_rd (base := 0) (c := 1) (e := 2) (tmp_new _ _ _)) (by exact HU2.out _) (by exact HK7.out) ?_
                   intro A8 c8 w8 ho8 hch8 hfo8
                   have HR8 : Hid (Row w9 w8 A8 (k7 + 1) c8 (bh ++ [f0])) := Lib.hid (by first | exact (HR7.out.below (below_new w7 (.cells #[.int .i64 f0] 2))).grow (ys := [f0]) ho8 hch8 hfo8 | exact HR7.out.grow (ys := [f0]) ho8 hch8 hfo8)
                   clear ho8 hch8 hfo8)
                | (go_simp
                   go_at_call 66
                   refine (l00Own_any _ A3 n3 c3 bh (by have h := own_rd HB9.out.own; first | exact h | exact h.below (below_new _ _) (Nat.le_refl _) | exact h.below (below_drew1 (below_new _ _)) (Nat.le_refl _)) (by exact HKF.out)).mono ?_
                   rintro e w7 ⟨A7, k7, c7, rfl, ho7, hb7⟩
                   have HBB7 : Hid (Below w9.heap.size w9 w7) := Lib.hid (by have h := und1 hb7; first | exact h | exact (below_new w9 (.cells #[.int .i64 f0] 2)).trans (h.mono (by simp)))
                   have HR7 : Hid (Row w9 w7 A7 k7 c7 bh) := Lib.hid (by first | exact Row.of ho7 HBB7.out | exact Row.of (own_base (base' := w9.heap.size) ho7 (by show _ ≤ (World.alloc _ _).heap.size; simp)) HBB7.out)
                   (try have HTM : Hid (w7.ownsRow 0 2 1 (.slice (some ⟨w9.heap.size, 0, none⟩) 1 1) 1 [.int .i64 f0]) := Lib.hid (ownN_below (tmp_new w9 (.int .i64 f0) 2) (und1 hb7) (Nat.le_refl _)))
                   have HK7 : Hid (k7 + 1 ≤ 1099511627776) := Lib.hid (by have h := HR7.out.bd HYF.out; omega)
                   have qf7 := (HBW9.out.trans (HBB7.out.mono HBW9.out.size)).cell (p := ⟨bf, ff, none⟩) HBF.out |>.trans QF.out
                   clear ho7 hb7)))
            | fail)
          all_goals
            as_aux_lemma =>
            have HB8 := Lib.hid HR8.out.bel
            have HS2 : Hid (Rd w8 A6 (k5 + 1) (ints (F ++ [(j : Int)]))) := Lib.hid ((own_rd HR9.out.own).below HB8.out (Nat.le_refl _))
            have HK8 : Hid (k7 + 1 + (k5 + 1) ≤ 1099511627776) := Lib.hid (by have h1 := HR7.out.bd HYF.out; have h2 := HKS.out; omega)
            go_upto_region 20 with (at_builtin; go_must (refine wpList_appOz Tryz.eltI rfl (.tmp 75) (.tmp 76) (by rfl) w8 0 A8 _ (k7 + 1) c8 (k5 + 1) _ (ints (bh ++ [f0])) (ints (F ++ [(j : Int)])) (by rfl) HR8.out.own (by rfl) HS2.out ints_one HK8.out ?_); intro Ay cy wy hoy hchy hfoy)
            have HY : Hid (Row w9 wy Ay (k7 + 1 + (k5 + 1)) cy (bh ++ [f0] ++ (F ++ [(j : Int)]))) := Lib.hid (HR8.out.grow (ys := (F ++ [(j : Int)])) hoy hchy hfoy)
            have HNY : Hid (k7 + 1 + (k5 + 1) ≤ 1000000) := Lib.hid (by have h1 := HY.out.len; have h2 := HYL.out; simp at h1 h2; omega)
            clear hoy hchy hfoy
            generalize hky : k7 + 1 + (k5 + 1) = ky at *
            clear hky
            as_aux_lemma =>
            go_wp2_with fail
            refine (l29Put_end wy A m c us (nx P F Q ws j) (HN9.out.out.below HY.out.bel) (Nat.le_trans HMJ.out (by decide)) Ay ky cy (bh ++ [f0] ++ (F ++ [(j : Int)])) (own_rd HY.out.own) HNY.out (by rw [HEY.out]; exact fun k x hx => nx_last hx)).mono ?_
            rintro e w10 ⟨A10, c10, rfl, ho10, hch10, hfo10⟩
            have HP := Lib.hid (HN9.out.put HY.out (Nat.le_trans HNY.out (by decide)) ho10 hch10 hfo10)
            clear ho10 hch10 hfo10
            go_wp2_with fail
            go_roundw
            case rel => exact ⟨j + 1, m + 1, A10, c10, _, by omega, by go_num, rfl, by rw [nx_yes HIN.out, ← HEY.out]; exact HP.out⟩
            case measure => simp [intOf]; omega
        · have HIN := Lib.hid hin
          rw [decide_eq_false hin]
          clear hin
          as_aux_lemma =>
          go_wp2_with fail
          go_roundw
          case rel => exact ⟨j + 1, m, A, c, us, by omega, by go_num, rfl, by rw [nx_no HIN.out]; exact HN.out.below HBR.out⟩
          case measure => simp [intOf]; omega
      · obtain rfl : s = j := by omega
        as_aux_lemma =>
        go_wp2_with fail
        go_ret
        have hz := HB.out.trans (HBW.out.mono HB.out.size)
        exact ⟨A, m, c, FX A m c us, rfl, HN.out.out.ownp, fun q hq => ⟨Nat.le_trans HB.out.size (HN.out.lo q hq), HN.out.out.lt hq⟩, hz⟩
set_option maxHeartbeats 16000000 in
set_option maxRecDepth 100000 in
theorem l29Next_l (w : World) (g : Nat) (s : Nat) (t : Int) (A : Option Addr) (n c : Nat) (hm : BM w g s t A n c) (hs : s ≤ 6) (ra rc : Int) (A1 : Option Addr) (n1 c1 h : Nat) (xs : List Int) (hr1 : Rd w A1 n1 (ints xs)) (hc1 : n1 ≤ c1) (hn1 : n1 = 2 * h + 1) (hh : 1 ≤ h ∧ h ≤ 4) (A2 : Option Addr) (n2 c2 : Nat) (ws : List (List Int)) (hr2 : RdL w A2 n2 ws) (hn2 : n2 ≤ 1000000000) (f0 : Int) (F bh P Q : List Int)
    (hF : xs.take h = f0 :: F) (hbh : bh = ra :: (xs.drop (h + 1)).take (h - 1)) (hP : P = []) (hQ : Q = [f0] ++ bh) :
    Calls Tryz.prog 122 #[.pointer (some ⟨g, 0, none⟩), rulV ⟨ra, -1, rc⟩, .slice A1 n1 c1, .slice A2 n2 c2] w (RetP w (nx P F Q ws s)) := by
  obtain ⟨w0, hw0⟩ : ∃ w0, w0 = w.alloc (.cells #[.int .i64 ra, .int .i64 (-1), .int .i64 rc] 97) := ⟨_, rfl⟩
  have hB : Below w.heap.size w w0 := by rw [hw0]; exact below_new w _
  have hx0 : w0.heap[w.heap.size]? = some (.cells #[.int .i64 ra, .int .i64 (-1), .int .i64 rc] 97 (0, 0)) := by rw [hw0]; exact box_new w _ _
  have hl : xs.length = n1 := by simpa using hr1.1
  have ed : Int.tdiv (n1 : Int) 2 = (h : Int) := by rw [Int.tdiv_eq_ediv_of_nonneg (by omega)]; omega
  have hwh : IntKind.i64.wrap ((h : Int) + 1) = (h : Int) + 1 := IntWalk.i64_in _ (by omega)
  have hwm : IntKind.i64.wrap ((h : Int) - 1) = ((h - 1 : Nat) : Int) := by rw [IntWalk.i64_in _ (by omega)]; omega
  have hcn := fun (w : World) => run_cutH Tryz.underlying25 Tryz.szI w A1 n1 c1 h (h : Int) .i64 rfl (by omega)
  have hcf := fun (w : World) => run_cutF Tryz.underlying25 Tryz.szI w A1 n1 c1 (h + 1) ((h : Int) + 1) .i64 (by push_cast; rfl) (by omega)
  have e1 : n1 - (h + 1) = h := by omega
  rw [e1] at hcf
  have hrN : Rd w A1 h (ints (xs.take h)) := by have h := hr1.take h (by omega); rwa [← List.map_take] at h
  have hrF : Rd w (cutA A1 (h + 1) c1 1) h (ints (xs.drop (h + 1))) := by have h := hr1.cut (h + 1) c1 (by omega) hc1; rwa [e1, ← List.map_drop] at h
  have hcap : h ≤ c1 - (h + 1) := by omega
  have hcap1 : h ≤ c1 := by omega
  generalize cutA A1 (h + 1) c1 1 = Af at *
  generalize c1 - (h + 1) = cf at *
  have hrn : Rd w Af (h - 1) (ints ((xs.drop (h + 1)).take (h - 1))) := by have h := hrF.take (h - 1) (by omega); rwa [← List.map_take] at h
  have hcb := fun (w : World) => run_cutH Tryz.underlying25 Tryz.szI w Af h cf (h - 1) ((h - 1 : Nat) : Int) .i64 rfl (by omega)
  have hct := fun (w : World) => run_cutF Tryz.underlying25 Tryz.szI w A1 h c1 1 1 .i64 rfl (by omega)
  have hrf0 := hrN
  rw [hF] at hrf0
  have hrT : Rd w (cutA A1 1 c1 1) (h - 1) (ints F) := by have h := hrf0.cut 1 c1 (by omega) (by omega); simpa using h
  have hFl : F.length = h - 1 := by have h1 := hrf0.1; simp at h1; omega
  obtain ⟨bf, ff, hfa, hbf, qf⟩ := hrf0.at_ (ints_get (xs := f0 :: F) (k := 0) (x := f0) rfl)
  simp only [Nat.add_zero] at qf
  subst hfa
  generalize cutA (some ⟨bf, ff, none⟩) 1 c1 1 = At at *
  have hbl : bh.length = h := by rw [hbh]; simp [List.length_take, hl]; omega
  have HBL := Lib.hid hbl; have HFL := Lib.hid hFl
  have HEY0 : Hid (∀ j : Nat, F ++ [(j : Int)] ++ [f0] ++ bh = P ++ F ++ [(j : Int)] ++ Q) := Lib.hid (fun j => by rw [hP, hQ]; simp)
  have HBF : Hid (bf < w0.heap.size) := Lib.hid (Nat.lt_of_lt_of_le hbf hB.size)
  have QF := Lib.hid ((hB.cell (p := ⟨bf, ff, none⟩) hbf).trans qf)
  have HRT := Lib.hid (hrT.below hB (Nat.le_refl _))
  have HRN : Hid (Rd w0 Af (h - 1) (ints ((xs.drop (h + 1)).take (h - 1)))) := Lib.hid (hrn.below hB (Nat.le_refl _))
  have HM := Lib.hid (blk_bel hm hB : BM w0 g s t A n c)
  have HR2 := Lib.hid (hr2.below hB (Nat.le_refl _))
  have HB := Lib.hid hB
  have HBH := Lib.hid hbh
  have z0 := blk_cell hx0 0 rfl
  have z1 := blk_cell hx0 1 rfl
  have HX0 := Lib.hid hx0
  have hmv : ((-1 : Int) < 0) = True := by decide
  have HU2 : Hid (∀ x, ∀ u ∈ [Value.int .i64 x], u.oneCell' = true) := Lib.hid (by simp [Value.oneCell'])
  have HHM : Hid (h - 1 ≤ 3 ∧ h ≤ 4) := Lib.hid (by omega)
  have HH1 : Hid (1 + (h - 1) ≤ 1099511627776) := Lib.hid (by omega)
  have HH2 : Hid (h - 1 ≤ 1000000000) := Lib.hid (by omega)
  have h1le : (1 : Int) ≤ (h : Int) := by omega
  have i2 : (h : Int) ≤ 4 := by omega
  have i2' : h < n1 := by omega
  have j0 : (0 : Int) ≤ (h : Int) + 1 := by omega
  have j1 : (h : Int) + 1 ≤ (n1 : Int) := by omega
  have j2 : h + 1 ≤ n1 := by omega
  have j3 : (h : Int) ≤ (c1 : Int) := by omega
  have j4 : h ≤ c1 := by omega
  have j5 : h - 1 ≤ 3 := by omega
  have j6 : h ≤ cf := by omega
  have j7 : h - 1 ≤ cf := by omega
  have j8 : h - 1 ≤ c1 := by omega
  generalize hhm : h - 1 = hm1 at *
  clear hB hx0 hm hr1 hr2 hrN hrF hrn hrf0 hrT hF hbh hP hQ qf hbf hFl hbl hl hhm e1 hn1 hc1 hh hcap hcap1
  go_enter Tryz.func122, Tryz.ntmps122
  go_upto_region 1 with fail
  rw [← hw0]
  clear hw0
  as_aux_lemma =>
  go_wp2_with fail
  (first
    | (go_region_law (first
        | (refine step_appOz Tryz.eltI (by rfl) (.tmp 39) (.tmp 43) (by rfl) _ 0 (some ⟨w0.heap.size, 0, none⟩) _ 1 1 hm1 _ [.int .i64 ra] _ (by rfl) (by first | exact tmp1 _ _ _ | exact tmp_new _ _ _) (by rfl) (by have h := HRN.out.below (below_drew1 (below_new w0 (.cells #[.int .i64 ra] 2))) (Nat.le_refl _); exact h) (by exact ints_one) (by exact HH1.out) ?_
           intro A3 c3 w3 ho3 hch3 hfo3
           have HR3 : Hid (Row w0 w3 A3 (1 + hm1) c3 bh) := Lib.hid (by
             have hz : Row w0 (w0.alloc (.cells #[.int .i64 ra] 2)) (some ⟨w0.heap.size, 0, none⟩) 1 1 [ra] := Row.of (own_lit w0 #[.int .i64 ra] 1 2 rfl (by omega)) (below_new _ _)
             have h := hz.grow (w' := w3) ho3 (ch_undrN hch3) hfo3
             rw [HBH.out]; exact h)
           clear ho3 hch3 hfo3)))
    | fail)
  all_goals
    as_aux_lemma =>
    generalize 1 + hm1 = n3 at *
    clear z0 hcb hcn hcf
    have hz3 := blk_bel HX0.out HR3.out.bel
    have z1 := blk_cell hz3 1 rfl
    clear hz3
    go_upto_region 9 with fail
    obtain ⟨w4, hw4⟩ : ∃ w4, w4 = w3.alloc (.cells #[] 25) := ⟨_, rfl⟩
    have HNS : Hid (NS w0 w4 A3 n3 c3 bh (some ⟨w3.heap.size, 0, none⟩) 0 0 [] (nx P F Q ws 0)) := Lib.hid (by
      rw [hw4]
      have ho := own_lit w3 #[] 0 25 rfl (by omega)
      refine ⟨⟨ownN_base ho (Nat.zero_le _), InnerP.nil _ _⟩, fun q hq => ?_, HR3.out.below (below_new _ _)⟩
      rcases hq with hq | ⟨u, hu, _⟩
      · have h1 := (ho.lt q hq).1; have h2 := HR3.out.bel.size; omega
      · simp at hu)
    rw [← hw4]
    clear hw4 z1 HR3
    as_aux_lemma =>
    go_wp2_with fail
    go_loopw [13, 14] (fun qo qx wr => ∃ (j m : Nat) (A : Option Addr) (c : Nat) (us : List Value), j ≤ s ∧ qx = .int .i64 j ∧ qo = .slice A m c ∧ NS w0 wr A3 n3 c3 bh A m c us (nx P F Q ws j)) (fun _ qx _ => s - (intOf qx).toNat)
    case atStart => exact ⟨0, 0, _, _, _, by omega, rfl, rfl, HNS.out⟩
    case round =>
      as_aux_lemma =>
      obtain ⟨j, m, A, c, us, hj, rfl, rfl, hns⟩ := hrel
      have hbw := hns.beh.bel
      have HN := Lib.hid hns
      have HBW := Lib.hid hbw
      have HMJ : Hid (m ≤ 1000000) := Lib.hid (by have h1 := hns.out.ownp.len; have h2 := nx_len P F Q ws j; omega)
      have hmr := blk_bel HM.out hbw
      have y0 := blk_cell hmr 0 rfl
      clear hns hmr hbw
      by_cases hlt : j < s
      · as_aux_lemma =>
        have hlt' : (j : Int) < (s : Int) := by omega
        have hwj : IntKind.i64.wrap ((j : Int) + 1) = (j : Int) + 1 := IntWalk.i64_in _ (by omega)
        go_wp2_with fail
        refine (l00Own_any _ At hm1 _ F (HRT.out.below HBW.out (Nat.le_refl _)) HH2.out).mono ?_
        rintro e w5 ⟨A5, k5, c5, rfl, ho5, hb5⟩
        have HR5 : Hid (Row wr w5 A5 k5 c5 F) := Lib.hid (Row.of ho5 hb5)
        have HK5 : Hid (k5 ≤ 1000000000) := Lib.hid (HR5.out.bd (by rw [HFL.out]; exact HH2.out))
        clear ho5 hb5
        go_upto_region 13 with (at_builtin; go_must (refine wpList_app1O Tryz.eltI rfl _ _ rfl w5 0 A5 k5 c5 (ints F) (by rfl) HR5.out.own (.int .i64 j) rfl (by rfl) HK5.out ?_); intro A6 c6 w6 ho6 hch6 hfo6)
        have HR6 : Hid (Row wr w6 A6 (k5 + 1) c6 (F ++ [(j : Int)])) := Lib.hid (HR5.out.grow (ys := [(j : Int)]) ho6 hch6 hfo6)
        have HK6 : Hid (k5 + 1 ≤ 1000000000) := Lib.hid (by have h := HR6.out.bd (b := 1000) (by have h1 := HFL.out; have h2 := HHM.out; simp; omega); omega)
        clear ho6 hch6 hfo6 y0
        as_aux_lemma =>
        go_wp2_with fail
        refine (l29Has_any _ A2 n2 c2 ws (HR2.out.below (HBW.out.trans (HR6.out.bel.mono HBW.out.size)) (Nat.le_refl _)) hn2 A6 (k5 + 1) c6 (F ++ [(j : Int)]) (own_rd HR6.out.own) HK6.out).mono ?_
        rintro e w8 hdr
        obtain ⟨rfl, hb8⟩ := drpn_e hdr
        clear hdr
        have HBR : Hid (Below wr.heap.size wr w8) := Lib.hid (HR6.out.bel.trans (hb8.mono HR6.out.bel.size))
        have HRR : Hid (Row wr w8 A6 (k5 + 1) c6 (F ++ [(j : Int)])) := Lib.hid (HR6.out.below hb8)
        clear hb8
        by_cases hin : F ++ [(j : Int)] ∈ ws
        · have HIN := Lib.hid hin
          rw [decide_eq_true hin]
          clear hin
          as_aux_lemma =>
          go_upto_region 15 with fail
          obtain ⟨w9, hw9⟩ : ∃ w9, w9 = w8.alloc (.cells #[] 2) := ⟨_, rfl⟩
          have h89 : Below w8.heap.size w8 w9 := by rw [hw9]; exact below_new w8 _
          have HB19 := Lib.hid (HBR.out.trans (h89.mono HBR.out.size))
          have HR9 : Hid (Row wr w9 A6 (k5 + 1) c6 (F ++ [(j : Int)])) := Lib.hid (HRR.out.below h89)
          have HN9 : Hid (NS w0 w9 A3 n3 c3 bh A m c us (nx P F Q ws j)) := Lib.hid (HN.out.below HB19.out)
          have HB9 : Hid (Row w0 w9 A3 n3 c3 bh) := Lib.hid HN9.out.beh
          have HBW9 : Hid (Below w0.heap.size w0 w9) := Lib.hid HB9.out.bel
          have HEY := Lib.hid (HEY0.out j)
          have HYF : Hid (((F ++ [(j : Int)])).length ≤ 1000) := Lib.hid (by have h1 := HBL.out; have h2 := HFL.out; have h3 := HHM.out; first | (rw [h1]; omega) | (simp; omega))
          have HKF : Hid (k5 + 1 ≤ 1000000000) := Lib.hid (by have h := HR9.out.bd HYF.out; omega)
          have HKS : Hid (n3 ≤ 1000) := Lib.hid (HB9.out.bd (by have h1 := HBL.out; have h2 := HFL.out; have h3 := HHM.out; first | (rw [h1]; omega) | (simp; omega)))
          have HYL : Hid ((F ++ [(j : Int)] ++ [f0] ++ bh).length ≤ 1000) := Lib.hid (by have h1 := HBL.out; have h2 := HFL.out; have h3 := HHM.out; simp; omega)
          have hz9 := blk_bel HX0.out HBW9.out
          have z1 := blk_cell hz9 1 rfl
          have qf9 := (HBW9.out.cell (p := ⟨bf, ff, none⟩) HBF.out).trans QF.out
          have h0h : (0 : Int) < (h : Int) := by omega
          have h0h' : 0 < h := by omega
          rw [← hw9]
          clear hw9 h89 hz9 HBR HRR HR6 HR5
          as_aux_lemma =>
          go_wp2_with fail
          (first
            | (go_region_law (first
                | (have hq := HR7.out
                   clear hq
                   refine step_appOz Tryz.eltI (by rfl) (.tmp 79) (.tmp 83) (by rfl) _ 0 A7 _ k7 c7 1 _ (ints (F ++ [(j : Int)])) [.int .i64 f0] (by rfl) (by first | with_reducible exact (HR7.out.below (below_new _ _)).own | with_reducible exact HR7.out.own | exact (HR7.out.below (below_drew1 (below_new _ _))).own) (by rfl) (by first | exact own_rd (base := 0) (c := 1) (e := 2) HTM.out | exact own_rd (base := 0) (c := 1) (e := 2) (tmp_new _ _ _)) (by exact HU2.out _) (by exact HK7.out) ?_
                   intro A8 c8 w8 ho8 hch8 hfo8
                   have HR8 : Hid (Row w9 w8 A8 (k7 + 1) c8 ((F ++ [(j : Int)]) ++ [f0])) := Lib.hid (by first | exact (HR7.out.below (below_new w7 (.cells #[.int .i64 f0] 2))).grow (ys := [f0]) ho8 hch8 hfo8 | exact HR7.out.grow (ys := [f0]) ho8 hch8 hfo8)
                   clear ho8 hch8 hfo8)
                | (go_simp
                   go_at_call 66
                   refine (l00Own_any _ A6 (k5 + 1) c6 (F ++ [(j : Int)]) (by have h := own_rd HR9.out.own; first | exact h | exact h.below (below_new _ _) (Nat.le_refl _) | exact h.below (below_drew1 (below_new _ _)) (Nat.le_refl _)) (by exact HKF.out)).mono ?_
                   rintro e w7 ⟨A7, k7, c7, rfl, ho7, hb7⟩
                   have HBB7 : Hid (Below w9.heap.size w9 w7) := Lib.hid (by have h := und1 hb7; first | exact h | exact (below_new w9 (.cells #[.int .i64 f0] 2)).trans (h.mono (by simp)))
                   have HR7 : Hid (Row w9 w7 A7 k7 c7 (F ++ [(j : Int)])) := Lib.hid (by first | exact Row.of ho7 HBB7.out | exact Row.of (own_base (base' := w9.heap.size) ho7 (by show _ ≤ (World.alloc _ _).heap.size; simp)) HBB7.out)
                   (try have HTM : Hid (w7.ownsRow 0 2 1 (.slice (some ⟨w9.heap.size, 0, none⟩) 1 1) 1 [.int .i64 f0]) := Lib.hid (ownN_below (tmp_new w9 (.int .i64 f0) 2) (und1 hb7) (Nat.le_refl _)))
                   have HK7 : Hid (k7 + 1 ≤ 1099511627776) := Lib.hid (by have h := HR7.out.bd HYF.out; omega)
                   have qf7 := (HBW9.out.trans (HBB7.out.mono HBW9.out.size)).cell (p := ⟨bf, ff, none⟩) HBF.out |>.trans QF.out
                   clear ho7 hb7)))
            | fail)
          all_goals
            as_aux_lemma =>
            have HB8 := Lib.hid HR8.out.bel
            have HS2 : Hid (Rd w8 A3 n3 (ints bh)) := Lib.hid ((own_rd HB9.out.own).below HB8.out (Nat.le_refl _))
            have HK8 : Hid (k7 + 1 + n3 ≤ 1099511627776) := Lib.hid (by have h1 := HR7.out.bd HYF.out; have h2 := HKS.out; omega)
            go_upto_region 20 with (at_builtin; go_must (refine wpList_appOz Tryz.eltI rfl (.tmp 85) (.tmp 86) (by rfl) w8 0 A8 _ (k7 + 1) c8 n3 _ (ints ((F ++ [(j : Int)]) ++ [f0])) (ints bh) (by rfl) HR8.out.own (by rfl) HS2.out ints_one HK8.out ?_); intro Ay cy wy hoy hchy hfoy)
            have HY : Hid (Row w9 wy Ay (k7 + 1 + n3) cy (F ++ [(j : Int)] ++ [f0] ++ bh)) := Lib.hid (HR8.out.grow (ys := bh) hoy hchy hfoy)
            have HNY : Hid (k7 + 1 + n3 ≤ 1000000) := Lib.hid (by have h1 := HY.out.len; have h2 := HYL.out; simp at h1 h2; omega)
            clear hoy hchy hfoy
            generalize hky : k7 + 1 + n3 = ky at *
            clear hky
            as_aux_lemma =>
            go_wp2_with fail
            refine (l29Put_end wy A m c us (nx P F Q ws j) (HN9.out.out.below HY.out.bel) (Nat.le_trans HMJ.out (by decide)) Ay ky cy (F ++ [(j : Int)] ++ [f0] ++ bh) (own_rd HY.out.own) HNY.out (by rw [HEY.out]; exact fun k x hx => nx_last hx)).mono ?_
            rintro e w10 ⟨A10, c10, rfl, ho10, hch10, hfo10⟩
            have HP := Lib.hid (HN9.out.put HY.out (Nat.le_trans HNY.out (by decide)) ho10 hch10 hfo10)
            clear ho10 hch10 hfo10
            go_wp2_with fail
            go_roundw
            case rel => exact ⟨j + 1, m + 1, A10, c10, _, by omega, by go_num, rfl, by rw [nx_yes HIN.out, ← HEY.out]; exact HP.out⟩
            case measure => simp [intOf]; omega
        · have HIN := Lib.hid hin
          rw [decide_eq_false hin]
          clear hin
          as_aux_lemma =>
          go_wp2_with fail
          go_roundw
          case rel => exact ⟨j + 1, m, A, c, us, by omega, by go_num, rfl, by rw [nx_no HIN.out]; exact HN.out.below HBR.out⟩
          case measure => simp [intOf]; omega
      · obtain rfl : s = j := by omega
        as_aux_lemma =>
        go_wp2_with fail
        go_ret
        have hz := HB.out.trans (HBW.out.mono HB.out.size)
        exact ⟨A, m, c, FX A m c us, rfl, HN.out.out.ownp, fun q hq => ⟨Nat.le_trans HB.out.size (HN.out.lo q hq), HN.out.out.lt hq⟩, hz⟩
end Go.Proofs.YtanicbbgneobpaaGreat
/- Sets of items: setOf, has. -/
namespace Go.Proofs.YtanicbbgneobpaaGreat
open Go.RowKit
open Go.Maps (Keyed Tidy IsMap)
set_option linter.unusedVariables false
set_option linter.unusedSimpArgs false
theorem IsSet.add {w w' : World} {g mB : Nat} {len : Int} {xss : List (List Int)} {xs : List Int} (h : IsSet w g mB len xss) (ho : w'.ownsMap Tryz.prog 113 (plainElem (H := Unit) Tryz.prog 4) mB (xss.length + 1) ((setD xss).put (kIt (pad xs)) uT)) (hg : w.grownBy w' (some mB)) : IsSet w' g mB len (xss ++ [xs]) :=
  ⟨blk_ch h.box (ch_grown (F := (· = mB)) hg (fun k hk => by injection hk with hk; exact hk.symm)) h.ne, by rw [setD_snoc, List.length_append]; exact ho⟩
theorem set_bel {B : Nat} {w0 w w' : World} {mB : Nat} (h : Below B w0 w) (hg : w.grownBy w' (some mB)) (hm : B ≤ mB) (hs : B ≤ w.heap.size) : Below B w0 w' := below_ch h (ch_grown (F := (· = mB)) hg (fun k hk => by injection hk with hk; exact hk.symm)) (fun k hk => by have e : k = mB := hk; omega) hs
set_option maxHeartbeats 4000000 in
set_option maxRecDepth 100000 in
theorem setOf_any (w : World) (len : Int) (A : Option Addr) (n c : Nat) (xss : List (List Int)) (hr : RdL w A n xss) (hn : n ≤ 1000000000) (hgw : ∀ xs ∈ xss, Gw xs) :
    Calls Tryz.prog 42 #[.int .i64 len, .slice A n c] w (fun e w' => ∃ g mB, e = .returned (.pointer (some ⟨g, 0, none⟩)) ∧ IsSet w' g mB len xss ∧ w.heap.size ≤ g ∧ w.heap.size ≤ mB ∧ Below w.heap.size w w') := by
  obtain ⟨w0, hw0⟩ : ∃ w0, w0 = (w.alloc (.map #[] 0)).alloc (.cells #[.map (some w.heap.size), .int .i64 len] 111) := ⟨_, rfl⟩
  have hB : Below w.heap.size w w0 := by rw [hw0]; exact (below_new w _).trans ((below_new _ _).mono (by simp))
  have hs : IsSet w0 (w.heap.size + 1) w.heap.size len [] := by
    rw [hw0]
    refine ⟨by have h := box_new (w.alloc (.map #[] 0)) #[.map (some w.heap.size), .int .i64 len] 111; simpa using h, ?_⟩
    exact (World.ownsMap_made w Tryz.prog 113 _).alloc _
  have HS0 := Lib.hid hs
  have HB0 := Lib.hid hB
  have HL : Hid (xss.length = n) := Lib.hid hr.len
  have HGW := Lib.hid hgw
  clear hs hB hgw
  go_enter Tryz.func42, Tryz.ntmps42
  have hmm := @run_makeMap Tryz.prog
  go_upto_region 2 with fail
  rw [← hw0]
  clear hw0 hmm
  as_aux_lemma =>
  go_wp2_with fail
  go_loopw [14] (fun i wr => ∃ j : Nat, j ≤ n ∧ i = .int .i64 j ∧ IsSet wr (w.heap.size + 1) w.heap.size len (xss.take j) ∧ Below w.heap.size w wr) (fun i _ => n - (intOf i).toNat)
  case atStart => exact ⟨0, by omega, rfl, HS0.out, HB0.out⟩
  case round =>
    as_aux_lemma =>
    obtain ⟨j, hj, rfl, hs, hb⟩ := hrel
    by_cases hlt : j < n
    · have hlt' : (j : Int) < (n : Int) := by omega
      obtain ⟨xs, hx⟩ := get_some (xs := xss) (k := j) (by rw [HL.out]; exact hlt)
      obtain ⟨b, off, A', n', c', rfl, hbs, hc, hn', hr'⟩ := hr.at_ hx
      have q1 := (hb.cell (p := ⟨b, off + j, none⟩) hbs).trans hc
      have hg := HGW.out xs (List.mem_of_getElem? hx)
      have HG := Lib.hid hg
      have HNX : Hid (n' ≤ 10) := Lib.hid (by have h1 := hr'.1; have h2 := hg.1; simp at h1; omega)
      have HRX := Lib.hid (hr'.below hb (Nat.le_refl _))
      have HT : Hid (xss.take (j + 1) = xss.take j ++ [xs]) := Lib.hid (by rw [List.take_add_one, hx]; rfl)
      have HS := Lib.hid hs
      have HB := Lib.hid hb
      have HM : Hid ((xss.take j).length < maxLen) := Lib.hid (by unfold maxLen; simp; omega)
      have x0 := blk_cell hs.box 0 rfl
      clear hx hc hr' hs hb hg hn'
      go_wp2_with fail
      (first
        | (go_region_law (first
            | (go_simp
               go_at_call 78
               refine (itemOf_k _ A' n' c' xs (by have h := HRX.out; exact h) (by exact HNX.out)).mono ?_
               rintro e w2 ⟨rfl, hb2⟩
               have HB2 := Lib.hid (und1 hb2)
               have hs2 := HS.out.below HB2.out
               obtain ⟨w3, hrun3, hown3, hg3⟩ := hs2.own.update lawIt Tryz.underlying109 HM.out (val := .bool true) (keyIt (pad_len HG.out.1) HG.out.pad) (plainElem_bool Tryz.underlying4 true)
               have HS3 := Lib.hid (hs2.add hown3 hg3)
               have HB3 : Hid (Below w.heap.size w w3) := Lib.hid (set_bel (HB.out.trans (HB2.out.mono HB.out.size)) hg3 (Nat.le_refl _) (Nat.le_trans HB.out.size HB2.out.size))
               have x2 := blk_cell hs2.box 0 rfl
               clear hb2 hs2 hown3 hg3)))
        | fail)
      all_goals
        as_aux_lemma =>
        go_wp2_with fail
        go_roundw
        case rel => exact ⟨j + 1, by omega, by go_num, by rw [HT.out]; exact HS3.out, HB3.out⟩
        case measure => simp [intOf]; omega
    · obtain rfl : n = j := by omega
      have HE : Hid (xss.take n = xss) := Lib.hid (List.take_of_length_le (by rw [HL.out]; omega))
      go_wp2_with fail
      go_ret
      rw [HE.out] at hs
      exact ⟨w.heap.size + 1, w.heap.size, rfl, hs, Nat.le_succ _, Nat.le_refl _, hb⟩
theorem plainB_inv {v : Value} {b : Bool} {ps : List MemPlace} (h : plainElem (H := Unit) Tryz.prog 4 v = some (.lit (.bool b), ps)) : v = .bool b := by
  cases v <;> simp_all [plainElem, Tryz.underlying4]
set_option maxHeartbeats 4000000 in
set_option maxRecDepth 100000 in
theorem has_any (w : World) (g mB : Nat) (len : Int) (xss : List (List Int)) (hs : IsSet w g mB len xss) (A : Option Addr) (n c : Nat) (xs : List Int) (hr : Rd w A n (ints xs)) (hg : Gw xs) (hx : ∀ ys ∈ xss, Gw ys ∧ ys.length = xs.length) :
    Calls Tryz.prog 43 #[.pointer (some ⟨g, 0, none⟩), .slice A n c] w (RetV w (.bool (decide (xs ∈ xss)))) := by
  have HS := Lib.hid hs
  have HR := Lib.hid hr
  have HNX : Hid (n ≤ 10) := Lib.hid (by have h1 := hr.1; have h2 := hg.1; simp at h1; omega)
  have HG := Lib.hid hg
  have HAT : Hid (∀ z, (setD xss).atKey (kIt (pad xs)) z = if xs ∈ xss then uT else z) := Lib.hid (setD_at hx hg rfl)
  have x0 := blk_cell hs.box 0 rfl
  clear hs hr hg hx
  go_enter Tryz.func43, Tryz.ntmps43
  go_wp2_with fail
  (first
    | (go_region_law (first
        | (go_simp
           go_at_call 78
           refine (itemOf_k _ A n c xs (by have h := HR.out; exact h) (by exact HNX.out)).mono ?_
           rintro e w2 ⟨rfl, hb2⟩
           have HB2 := Lib.hid (und1 hb2)
           have hs2 := HS.out.below HB2.out
           obtain ⟨v, ps, hrunv, hv⟩ := hs2.own.lookup lawIt Tryz.underlying109 (zeroB _) (plainElem_bool Tryz.underlying4 false) (keyIt (pad_len HG.out.1) HG.out.pad)
           rw [HAT.out] at hv
           have HV : Hid (v = .bool (decide (xs ∈ xss))) := Lib.hid (by
             by_cases hm : xs ∈ xss
             · rw [if_pos hm] at hv; rw [decide_eq_true hm]; exact plainB_inv hv
             · rw [if_neg hm] at hv; rw [decide_eq_false hm]; exact plainB_inv hv)
           have x2 := blk_cell hs2.box 0 rfl
           clear hb2 hs2 hv)))
    | fail)
  all_goals
    as_aux_lemma =>
    go_wp2_with fail
    go_ret
    exact ⟨by first | rfl | (rw [HV.out]; rfl) | (rw [HV.out]) | simp [Act.put, HV.out], HB2.out⟩
end Go.Proofs.YtanicbbgneobpaaGreat
