/- Automata: validity, both sides. Written by mk_auv.py. -/
import Derived.Test.YtcpkhhammafchaaAuM
import Derived.Test.YtcpkhhammafchaaGE
import Derived.Deep.QuietTactic
import Derived.BigQuiet
import Derived.IntWalk
namespace Go.Proofs.Ytcpkhhammafchaa
open Go.RowKit
set_option linter.unusedVariables false
set_option linter.unusedSimpArgs false
def BD (w : World) (g : Nat) (st : Int) (A : Option Addr) (n c : Nat) : Prop := w.heap[g]? = some (.cells #[.int .i64 st, .slice A n c] 55 (0, 0))
theorem BD.bel {w w' : World} {g n c : Nat} {st : Int} {A : Option Addr} (h : BD w g st A n c) (hb : Below w.heap.size w w') : BD w' g st A n c := blk_bel h hb
theorem BD.cells {w : World} {g n c : Nat} {st : Int} {A : Option Addr} (h : BD w g st A n c) : w.cell? ⟨g, 0, none⟩ = some (.int .i64 st) ∧ w.cell? ⟨g, 1, none⟩ = some (.slice A n c) := ⟨blk_cell h 0 rfl, blk_cell h 1 rfl⟩
abbrev dfV (st : Int) (A : Option Addr) (n c : Nat) : Value := .agg #[.int .i64 st, .slice A n c]
abbrev auVal (s t : Int) (A : Option Addr) (n c : Nat) (a : Int) (A1 : Option Addr) (n1 c1 : Nat) (b : Int) (A2 : Option Addr) (n2 c2 : Nat) : Value := .agg #[.int .i64 s, .int .i64 t, .slice A n c, .int .i64 a, .slice A1 n1 c1, .int .i64 b, .slice A2 n2 c2]
theorem dfB_no {st s : Int} {ns : List Int} (h : inB s 2 6 = false ∨ inB st 1 20 = false ∨ ¬ (ns.length : Int) = st * s ∨ allIn ns 0 (st - 1) = false ∨ ¬ ns.getD 0 0 = 0) : dfB st ns s = false := by
  unfold dfB
  rcases h with h | h | h | h | h
  · rw [h]; simp
  · rw [h]; simp
  · rw [decide_eq_false h]; simp
  · rw [h]; simp
  · rw [decide_eq_false h]; simp
theorem dfB_yes {st s : Int} {ns : List Int} (h1 : inB s 2 6 = true) (h2 : inB st 1 20 = true) (h3 : (ns.length : Int) = st * s) (h4 : allIn ns 0 (st - 1) = true) (h5 : ns.getD 0 0 = 0) : dfB st ns s = true := by
  unfold dfB
  rw [h1, h2, h4, decide_eq_true h3, decide_eq_true h5]
  rfl
theorem df_len {st s : Int} {n : Nat} (h1 : inB s 2 6 = true) (h2 : inB st 1 20 = true) (h : (n : Int) = st * s) : (1 ≤ n ∧ n ≤ 120) ∧ (0 ≤ st * s ∧ st * s ≤ 120) := by
  have a := inB_true.1 h1
  have b := inB_true.1 h2
  have e := mul_bd (show 0 ≤ st by omega) b.2 (show 0 ≤ s by omega) a.2
  have p := Int.mul_pos (show 0 < st by omega) (show 0 < s by omega)
  omega
theorem wr_mul {st s : Int} (h1 : inB s 2 6 = true) (h2 : inB st 1 20 = true) : IntKind.i64.wrap (st * s) = st * s := by
  have a := inB_true.1 h1
  have b := inB_true.1 h2
  have e := mul_bd (show 0 ≤ st by omega) b.2 (show 0 ≤ s by omega) a.2
  exact IntWalk.i64_in _ (by omega)
theorem wr_sub1 {st : Int} (h2 : inB st 1 20 = true) : IntKind.i64.wrap (st - 1) = st - 1 := by
  have b := inB_true.1 h2
  exact IntWalk.i64_in _ (by omega)
theorem getD_at {ns : List Int} (h : 0 < ns.length) : ns[0]? = some (ns.getD 0 0) := by
  rw [List.getD_eq_getElem?_getD, List.getElem?_eq_getElem h]; rfl
set_option maxHeartbeats 8000000 in
set_option maxRecDepth 100000 in
theorem l28Is_any (w : World) (g : Nat) (st : Int) (A : Option Addr) (n c : Nat) (hb : BD w g st A n c) (ns : List Int) (hr : Rd w A n (ints ns)) (s : Int) :
    Calls Try.prog 101 #[.pointer (some ⟨g, 0, none⟩), .int .i64 s] w (DrP w (.bool (dfB st ns s))) := by
  have hl : ns.length = n := by simpa using hr.1
  have HL := Lib.hid hl
  have HBD := Lib.hid hb
  obtain ⟨q0, q1⟩ := hb.cells
  clear hb
  cases h1 : inB s 2 6 with
  | false =>
    have HO : Hid (dfB st ns s = false) := Lib.hid (dfB_no (.inl h1))
    clear hl hr
    go_enter Try.func101, Try.ntmps101
    go_wp2_with fail
    go_quiet ((go_at_call 110; exact Calls.quiet_of_same ((l00In_any _ _ _ _).mono fun e w' h => ⟨h.1, h.2.symm⟩)))
    go_wp2_with fail
    go_ret
    exact ⟨by rw [HO.out]; rfl, _, rfl⟩
  | true =>
    cases h2 : inB st 1 20 with
    | false =>
      have HO : Hid (dfB st ns s = false) := Lib.hid (dfB_no (.inr (.inl h2)))
      clear hl hr
      go_enter Try.func101, Try.ntmps101
      go_wp2_with fail
      go_quiet ((go_at_call 110; exact Calls.quiet_of_same ((l00In_any _ _ _ _).mono fun e w' h => ⟨h.1, h.2.symm⟩)))
      go_wp2_with fail
      go_ret
      exact ⟨by rw [HO.out]; rfl, _, rfl⟩
    | true =>
      have hm := wr_mul h1 h2
      by_cases h3 : (n : Int) = st * s
      · have h3' : ((n : Int) != st * s) = false := by simp [h3]
        have hlen := df_len h1 h2 h3
        obtain ⟨b2, off2, hA, hbs, hcl⟩ := hr.2 (by omega)
        have q2 := hcl 0 _ (ints_get (getD_at (by rw [hl]; omega)))
        simp only [Nat.add_zero] at q2
        have i0 : (0 : Int) < (n : Int) := by omega
        subst hA
        have HBS := Lib.hid hbs; have HCL := Lib.hid hcl
        by_cases h5 : ns.getD 0 0 = 0
        · rw [h5] at q2
          clear hl hr hlen hbs hcl
          have HO5 := Lib.hid h5; have HO3 := Lib.hid h3; have H1 := Lib.hid h1; have H2 := Lib.hid h2; have HLN := Lib.hid (df_len h1 h2 h3).1
          have hws := wr_sub1 h2
          have HWS := Lib.hid hws
          clear hws
          go_enter Try.func101, Try.ntmps101
          go_wp2_with fail
          go_quiet ((go_at_call 110; exact Calls.quiet_of_same ((l00In_any _ _ _ _).mono fun e w' h => ⟨h.1, h.2.symm⟩)))
          as_aux_lemma =>
          clear i0 q2 hm h3' h1 h2 h3 h5
          go_wp2_with fail
          go_loopw [5] (fun q wr => ∃ k : Nat, k ≤ n ∧ q = .int .i64 k ∧ Hid (allIn (ns.take k) 0 (st - 1) = true) ∧ Hid (∃ nq, wr = w.drewN nq)) (fun q _ => n - (intOf q).toNat)
          case atStart => exact ⟨0, by omega, rfl, Lib.hid (by simp [allIn]), Lib.hid ⟨_, rfl⟩⟩
          case round =>
            as_aux_lemma =>
            obtain ⟨k, hk, rfl, hall, hw⟩ := hrel
            have hb : Below w.heap.size w wr := by obtain ⟨nr, h⟩ := hw.out; rw [h]; exact below_drewN (Below.refl _ _)
            have hn1 : n ≤ 120 := HLN.out.2
            obtain ⟨z0, z1⟩ := (HBD.out.bel hb).cells
            by_cases hlt : k < n
            · have hlt' : (k : Int) < (n : Int) := by omega
              have hk0 : (0 : Int) ≤ (k : Int) := by omega
              obtain ⟨x, hx⟩ := get_some (xs := ns) (k := k) (by rw [HL.out]; exact hlt)
              have HX := Lib.hid hx
              have q0 := (hb.cell (p := ⟨b2, off2 + k, none⟩) HBS.out).trans (HCL.out k _ (ints_get hx))
              have hws := HWS.out
              clear hx hb
              cases hin : inB x 0 (st - 1) with
              | true =>
                have HI := Lib.hid hin
                go_wp2_with fail
                go_quiet ((go_at_call 110; exact Calls.quiet_of_same ((l00In_any _ _ _ _).mono fun e w' h => ⟨h.1, h.2.symm⟩)))
                go_wp2_with fail
                go_roundw
                case rel => exact ⟨k + 1, by omega, by go_num, Lib.hid (allIn_take_step hall.out HX.out HI.out), Lib.hid (drn_step hw.out _)⟩
                case measure => simp [intOf]; omega
              | false =>
                have HQ : Hid (dfB st ns s = false) := Lib.hid (dfB_no (.inr (.inr (.inr (.inl (allIn_out HX.out hin))))))
                go_wp2_with fail
                go_quiet ((go_at_call 110; exact Calls.quiet_of_same ((l00In_any _ _ _ _).mono fun e w' h => ⟨h.1, h.2.symm⟩)))
                go_wp2_with fail
                go_ret
                exact ⟨by rw [HQ.out]; rfl, drn_step hw.out _⟩
            · have HQ : Hid (dfB st ns s = true) := Lib.hid (by
                have h := hall.out
                rw [List.take_of_length_le (by rw [HL.out]; omega)] at h
                exact dfB_yes H1.out H2.out (by rw [HL.out]; exact HO3.out) h HO5.out)
              clear hb
              go_wp2_with fail
              go_ret
              exact ⟨by rw [HQ.out]; rfl, hw.out⟩
        · have hx : (ns.getD 0 0 != (0 : Int)) = true := by rw [bne_iff_ne]; exact h5
          have HO : Hid (dfB st ns s = false) := Lib.hid (dfB_no (.inr (.inr (.inr (.inr h5)))))
          generalize ns.getD 0 0 = x0 at *
          clear hl hr hlen hbs hcl h5 h3
          go_enter Try.func101, Try.ntmps101
          go_wp2_with fail
          go_quiet ((go_at_call 110; exact Calls.quiet_of_same ((l00In_any _ _ _ _).mono fun e w' h => ⟨h.1, h.2.symm⟩)))
          go_wp2_with fail
          go_ret
          exact ⟨by rw [HO.out]; rfl, _, rfl⟩
      · have h3' : ((n : Int) != st * s) = true := by rw [bne_iff_ne]; exact h3
        have HO : Hid (dfB st ns s = false) := Lib.hid (dfB_no (.inr (.inr (.inl (by rw [hl]; exact h3)))))
        clear hl hr h3
        go_enter Try.func101, Try.ntmps101
        go_wp2_with fail
        go_quiet ((go_at_call 110; exact Calls.quiet_of_same ((l00In_any _ _ _ _).mono fun e w' h => ⟨h.1, h.2.symm⟩)))
        go_wp2_with fail
        go_ret
        exact ⟨by rw [HO.out]; rfl, _, rfl⟩
theorem symbolsOk_any (w : World) (s : Int) : Calls Try.prog 146 #[.int .i64 s] w fun e w' => e = .returned (.bool (inB s 2 6)) ∧ w = w' := by
  go_enter Try.func146, Try.ntmps146
  go_wp2_with fail
  refine (within_any _ _ _ _).mono ?_
  rintro e w' ⟨rfl, rfl⟩
  go_wp2_with fail
  go_ret
  exact ⟨rfl, rfl⟩
set_option maxHeartbeats 8000000 in
set_option maxRecDepth 100000 in
theorem ValidDfa_any (w : World) (st : Int) (A : Option Addr) (n c : Nat) (ns : List Int) (hr : Rd w A n (ints ns)) (hn : n ≤ 1000000000) (s : Int) :
    Calls Try.prog 106 #[dfV st A n c, .int .i64 s] w (RetV w (.bool (dfB st ns s))) := by
  obtain ⟨w0, hw0⟩ : ∃ w0, w0 = w.alloc (.cells #[.int .i64 st, .slice A n c] 55) := ⟨_, rfl⟩
  have hB : Below w.heap.size w w0 := by rw [hw0]; exact below_new w _
  have hx : w0.heap[w.heap.size]? = some (.cells #[.int .i64 st, .slice A n c] 55 (0, 0)) := by rw [hw0]; exact box_new w _ _
  have HB := Lib.hid hB
  have hr0 := hr.below hB (Nat.le_refl _)
  have hl : ns.length = n := by simpa using hr.1
  have HL := Lib.hid hl
  have haw : ∀ q, Calls Try.prog 39 #[.slice A n c, .int .i64 0, .int .i64 (st - 1)] (w0.drewN q) (fun e w' => e = .returned (.bool (allIn ns 0 (st - 1))) ∧ w' = w0.drewN q) := fun q => (allWithin_any (w0.drewN q) A n c ns hr0 (by omega) 0 (st - 1)).mono fun e w' h => ⟨h.1, h.2.symm⟩
  have HAW := Lib.hid (fun q => Calls.quiet_of_same (haw q))
  have q0 := blk_cell hx 0 rfl
  have q1 := blk_cell hx 1 rfl
  clear hB hx haw hr
  cases h1 : inB s 2 6 with
  | false =>
    have HO : Hid (dfB st ns s = false) := Lib.hid (dfB_no (.inl h1))
    clear hl hr0
    go_enter Try.func106, Try.ntmps106
    go_upto_region 1 with fail
    rw [← hw0]
    clear hw0
    go_wp2_with fail
    go_quiet (first
      | (go_at_call 146; exact Calls.quiet_of_same ((symbolsOk_any _ _).mono fun e w' h => ⟨h.1, h.2.symm⟩))
      | (go_at_call 96; exact Calls.quiet_of_same ((within_any _ _ _ _).mono fun e w' h => ⟨h.1, h.2.symm⟩))
      | (go_at_call 126; exact Calls.quiet_of_same ((sizeI_any _ _ _ _).mono fun e w' h => ⟨h.1, h.2.symm⟩))
      | (go_at_call 39; with_reducible exact HAW.out _))
    go_wp2_with fail
    go_ret
    exact ⟨by rw [HO.out]; rfl, below_drewN HB.out⟩
  | true =>
    cases h2 : inB st 1 20 with
    | false =>
      have HO : Hid (dfB st ns s = false) := Lib.hid (dfB_no (.inr (.inl h2)))
      clear hl hr0
      go_enter Try.func106, Try.ntmps106
      go_upto_region 1 with fail
      rw [← hw0]
      clear hw0
      go_wp2_with fail
      go_quiet (first
        | (go_at_call 146; exact Calls.quiet_of_same ((symbolsOk_any _ _).mono fun e w' h => ⟨h.1, h.2.symm⟩))
        | (go_at_call 96; exact Calls.quiet_of_same ((within_any _ _ _ _).mono fun e w' h => ⟨h.1, h.2.symm⟩))
        | (go_at_call 126; exact Calls.quiet_of_same ((sizeI_any _ _ _ _).mono fun e w' h => ⟨h.1, h.2.symm⟩))
        | (go_at_call 39; with_reducible exact HAW.out _))
      go_wp2_with fail
      go_ret
      exact ⟨by rw [HO.out]; rfl, below_drewN HB.out⟩
    | true =>
      have hm := wr_mul h1 h2
      have hs1 := wr_sub1 h2
      by_cases h3 : (n : Int) = st * s
      · have h3' : ((n : Int) == st * s) = true := by simp [h3]
        have hlen := df_len h1 h2 h3
        obtain ⟨b2, off2, hA, hbs, hcl⟩ := hr0.2 (by omega)
        have q2 := hcl 0 _ (ints_get (getD_at (by rw [hl]; omega)))
        simp only [Nat.add_zero] at q2
        have i0 : (0 : Int) < (n : Int) := by omega
        have i0b : (0 : Int) < st * s := by omega
        have i0c : 0 < n := by omega
        subst hA
        have H3 := Lib.hid h3
        cases h4 : allIn ns 0 (st - 1) with
        | false =>
          have HO : Hid (dfB st ns s = false) := Lib.hid (dfB_no (.inr (.inr (.inr (.inl h4)))))
          clear hl hr0 hlen hbs hcl h3
          go_enter Try.func106, Try.ntmps106
          go_upto_region 1 with fail
          rw [← hw0]
          clear hw0
          go_wp2_with fail
          go_quiet (first
            | (go_at_call 146; exact Calls.quiet_of_same ((symbolsOk_any _ _).mono fun e w' h => ⟨h.1, h.2.symm⟩))
            | (go_at_call 96; exact Calls.quiet_of_same ((within_any _ _ _ _).mono fun e w' h => ⟨h.1, h.2.symm⟩))
            | (go_at_call 126; exact Calls.quiet_of_same ((sizeI_any _ _ _ _).mono fun e w' h => ⟨h.1, h.2.symm⟩))
            | (go_at_call 39; with_reducible exact HAW.out _))
          go_wp2_with fail
          go_ret
          exact ⟨by rw [HO.out]; rfl, below_drewN HB.out⟩
        | true =>
          by_cases h5 : ns.getD 0 0 = 0
          · have HO : Hid (dfB st ns s = true) := Lib.hid (dfB_yes h1 h2 (by rw [hl]; exact h3) h4 h5)
            rw [h5] at q2
            clear hl hr0 hlen hbs hcl h3 h5
            go_enter Try.func106, Try.ntmps106
            go_upto_region 1 with fail
            rw [← hw0]
            clear hw0
            go_wp2_with fail
            go_quiet (first
              | (go_at_call 146; exact Calls.quiet_of_same ((symbolsOk_any _ _).mono fun e w' h => ⟨h.1, h.2.symm⟩))
              | (go_at_call 96; exact Calls.quiet_of_same ((within_any _ _ _ _).mono fun e w' h => ⟨h.1, h.2.symm⟩))
              | (go_at_call 126; exact Calls.quiet_of_same ((sizeI_any _ _ _ _).mono fun e w' h => ⟨h.1, h.2.symm⟩))
              | (go_at_call 39; with_reducible exact HAW.out _))
            go_wp2_with fail
            go_ret
            exact ⟨by rw [HO.out]; rfl, below_drewN HB.out⟩
          · have hx : (ns.getD 0 0 == (0 : Int)) = false := by rw [beq_eq_false_iff_ne]; exact h5
            have HO : Hid (dfB st ns s = false) := Lib.hid (dfB_no (.inr (.inr (.inr (.inr h5)))))
            generalize ns.getD 0 0 = x0 at *
            clear hl hr0 hlen hbs hcl h3 h5
            go_enter Try.func106, Try.ntmps106
            go_upto_region 1 with fail
            rw [← hw0]
            clear hw0
            go_wp2_with fail
            go_quiet (first
              | (go_at_call 146; exact Calls.quiet_of_same ((symbolsOk_any _ _).mono fun e w' h => ⟨h.1, h.2.symm⟩))
              | (go_at_call 96; exact Calls.quiet_of_same ((within_any _ _ _ _).mono fun e w' h => ⟨h.1, h.2.symm⟩))
              | (go_at_call 126; exact Calls.quiet_of_same ((sizeI_any _ _ _ _).mono fun e w' h => ⟨h.1, h.2.symm⟩))
              | (go_at_call 39; with_reducible exact HAW.out _))
            go_wp2_with fail
            go_ret
            exact ⟨by rw [HO.out]; rfl, below_drewN HB.out⟩
      · have h3' : ((n : Int) == st * s) = false := by rw [beq_eq_false_iff_ne]; exact h3
        have HO : Hid (dfB st ns s = false) := Lib.hid (dfB_no (.inr (.inr (.inl (by rw [hl]; exact h3)))))
        clear hl hr0 h3
        go_enter Try.func106, Try.ntmps106
        go_upto_region 1 with fail
        rw [← hw0]
        clear hw0
        go_wp2_with fail
        go_quiet (first
          | (go_at_call 146; exact Calls.quiet_of_same ((symbolsOk_any _ _).mono fun e w' h => ⟨h.1, h.2.symm⟩))
          | (go_at_call 96; exact Calls.quiet_of_same ((within_any _ _ _ _).mono fun e w' h => ⟨h.1, h.2.symm⟩))
          | (go_at_call 126; exact Calls.quiet_of_same ((sizeI_any _ _ _ _).mono fun e w' h => ⟨h.1, h.2.symm⟩))
          | (go_at_call 39; with_reducible exact HAW.out _))
        go_wp2_with fail
        go_ret
        exact ⟨by rw [HO.out]; rfl, below_drewN HB.out⟩
set_option maxHeartbeats 4000000 in
set_option maxRecDepth 100000 in
theorem l28Ready_any (w : World) (gm : Nat) (s t : Int) (A : Option Addr) (n c : Nat) (hm : BM w gm s t A n c) (rs : List Rul) (hr : Rd w A (n * 3) (ints (flatR rs))) (hn : n ≤ 1099511627776) (g1 : Nat) (a : Int) (A1 : Option Addr) (n1 c1 : Nat) (h1 : BD w g1 a A1 n1 c1) (xs : List Int) (hr1 : Rd w A1 n1 (ints xs)) (g2 : Nat) (b : Int) (A2 : Option Addr) (n2 c2 : Nat) (h2 : BD w g2 b A2 n2 c2) (ys : List Int) (hr2 : Rd w A2 n2 (ints ys)) :
    Calls Try.prog 51 #[.pointer (some ⟨gm, 0, none⟩), .pointer (some ⟨g1, 0, none⟩), .pointer (some ⟨g2, 0, none⟩)] w (RetV w (.bool (auV s t rs a xs b ys))) := by
  have HM := Lib.hid hm; have HR := Lib.hid hr; have H1 := Lib.hid h1; have H2 := Lib.hid h2; have HR1 := Lib.hid hr1; have HR2 := Lib.hid hr2
  have HLI := Lib.hid (l05Is_any w gm s t A n c hm rs hr hn)
  have HE : Hid (auV s t rs a xs b ys = (okM s t rs && dfB a xs s && dfB b ys s)) := Lib.hid rfl
  clear hm hr h1 h2 hr1 hr2
  obtain ⟨o1, ho1⟩ : ∃ o, o = okM s t rs := ⟨_, rfl⟩
  rw [← ho1] at HLI HE
  clear ho1
  go_enter Try.func51, Try.ntmps51
  go_wp2_with fail
  refine HLI.out.mono ?_
  rintro e w2 ⟨rfl, hb2⟩
  have HB2 := Lib.hid hb2
  cases o1 with
  | false =>
    go_wp2_with fail
    go_ret
    exact ⟨by rw [HE.out]; rfl, HB2.out⟩
  | true =>
    obtain ⟨z0, z1, z2⟩ := (HM.out.bel hb2).cells
    clear hb2 z1 z2
    have HL1 := l28Is_any w2 g1 a A1 n1 c1 (H1.out.bel HB2.out) xs (HR1.out.below HB2.out (Nat.le_refl _)) s
    obtain ⟨o2, ho2⟩ : ∃ o, o = dfB a xs s := ⟨_, rfl⟩
    rw [← ho2] at HL1 HE
    replace HL1 := Lib.hid HL1
    clear ho2
    go_wp2_with fail
    refine HL1.out.mono ?_
    rintro e w3 ⟨rfl, j3, rfl⟩
    have HB3 : Hid (Below w2.heap.size w2 (w2.drewN j3)) := Lib.hid (below_drewN (Below.refl _ _))
    cases o2 with
    | false =>
      go_wp2_with fail
      go_ret
      exact ⟨by rw [HE.out]; rfl, below_drewN HB2.out⟩
    | true =>
      have HL2 := l28Is_any (w2.drewN j3) g2 b A2 n2 c2 ((H2.out.bel HB2.out).bel HB3.out) ys ((HR2.out.below HB2.out (Nat.le_refl _)).below HB3.out (Nat.le_refl _)) s
      obtain ⟨o3, ho3⟩ : ∃ o, o = dfB b ys s := ⟨_, rfl⟩
      rw [← ho3] at HL2 HE
      replace HL2 := Lib.hid HL2
      clear ho3
      go_wp2_with fail
      refine HL2.out.mono ?_
      rintro e w4 ⟨rfl, j4, rfl⟩
      go_wp2_with fail
      go_ret
      exact ⟨by rw [HE.out]; rfl, by first | exact below_drewN HB2.out | exact below_drewN (below_drewN HB2.out)⟩
set_option maxHeartbeats 4000000 in
set_option maxRecDepth 100000 in
theorem auValid_any (w : World) (s t : Int) (A : Option Addr) (n c : Nat) (rs : List Rul) (hr : Rd w A (n * 3) (ints (flatR rs))) (hn : n ≤ 1099511627776) (a : Int) (A1 : Option Addr) (n1 c1 : Nat) (xs : List Int) (hr1 : Rd w A1 n1 (ints xs)) (hn1 : n1 ≤ 1000000000) (b : Int) (A2 : Option Addr) (n2 c2 : Nat) (ys : List Int) (hr2 : Rd w A2 n2 (ints ys)) (hn2 : n2 ≤ 1000000000) :
    Calls Try.prog 56 #[auVal s t A n c a A1 n1 c1 b A2 n2 c2] w (RetV w (.bool (auV s t rs a xs b ys))) := by
  obtain ⟨w0, hw0⟩ : ∃ w0, w0 = w.alloc (.cells #[.int .i64 s, .int .i64 t, .slice A n c, .int .i64 a, .slice A1 n1 c1, .int .i64 b, .slice A2 n2 c2] 100) := ⟨_, rfl⟩
  have hB : Below w.heap.size w w0 := by rw [hw0]; exact below_new w _
  have hx : w0.heap[w.heap.size]? = some (.cells #[.int .i64 s, .int .i64 t, .slice A n c, .int .i64 a, .slice A1 n1 c1, .int .i64 b, .slice A2 n2 c2] 100 (0, 0)) := by rw [hw0]; exact box_new w _ _
  have HB := Lib.hid hB; have HX := Lib.hid hx
  have HR := Lib.hid (hr.below hB (Nat.le_refl _)); have HR1 := Lib.hid (hr1.below hB (Nat.le_refl _)); have HR2 := Lib.hid (hr2.below hB (Nat.le_refl _))
  have HE : Hid (auV s t rs a xs b ys = (okM s t rs && dfB a xs s && dfB b ys s)) := Lib.hid rfl
  have HVM := ValidMachine_any w0 s t A n c rs HR.out hn
  obtain ⟨o1, ho1⟩ : ∃ o, o = okM s t rs := ⟨_, rfl⟩
  rw [← ho1] at HVM HE
  replace HVM := Lib.hid HVM
  have q0 := blk_cell hx 0 rfl
  have q1 := blk_cell hx 1 rfl
  have q2 := blk_cell hx 2 rfl
  clear ho1 hB hr hr1 hr2 hx
  go_enter Try.func56, Try.ntmps56
  go_upto_region 1 with fail
  rw [← hw0]
  clear hw0
  go_wp2_with fail
  refine HVM.out.mono ?_
  rintro e w2 ⟨rfl, hb2⟩
  have HB2 := Lib.hid hb2
  clear q0 q1 q2
  cases o1 with
  | false =>
    clear hb2
    go_wp2_with fail
    go_ret
    exact ⟨by rw [HE.out]; rfl, HB.out.trans (HB2.out.mono HB.out.size)⟩
  | true =>
    have hx2 := blk_bel HX.out hb2
    have HX2 := Lib.hid hx2
    have q0 := blk_cell hx2 0 rfl
    have q3 := blk_cell hx2 3 rfl
    have q4 := blk_cell hx2 4 rfl
    clear hb2 hx2
    have HL1 := ValidDfa_any w2 a A1 n1 c1 xs (HR1.out.below HB2.out (Nat.le_refl _)) hn1 s
    obtain ⟨o2, ho2⟩ : ∃ o, o = dfB a xs s := ⟨_, rfl⟩
    rw [← ho2] at HL1 HE
    replace HL1 := Lib.hid HL1
    clear ho2
    go_wp2_with fail
    refine HL1.out.mono ?_
    rintro e w3 ⟨rfl, hb3⟩
    have HB3 : Hid (Below w0.heap.size w0 w3) := Lib.hid (HB2.out.trans (hb3.mono HB2.out.size))
    cases o2 with
    | false =>
      clear hb3
      go_wp2_with fail
      go_ret
      exact ⟨by rw [HE.out]; rfl, HB.out.trans (HB3.out.mono HB.out.size)⟩
    | true =>
      have hx3 := blk_bel HX2.out hb3
      clear q0 q3 q4
      have q0 := blk_cell hx3 0 rfl
      have q5 := blk_cell hx3 5 rfl
      have q6 := blk_cell hx3 6 rfl
      clear hb3 hx3
      have HL2 := ValidDfa_any w3 b A2 n2 c2 ys (HR2.out.below HB3.out (Nat.le_refl _)) hn2 s
      obtain ⟨o3, ho3⟩ : ∃ o, o = dfB b ys s := ⟨_, rfl⟩
      rw [← ho3] at HL2 HE
      replace HL2 := Lib.hid HL2
      clear ho3
      go_wp2_with fail
      refine HL2.out.mono ?_
      rintro e w4 ⟨rfl, hb4⟩
      have HB4 : Hid (Below w0.heap.size w0 w4) := Lib.hid (HB3.out.trans (hb4.mono HB3.out.size))
      clear hb4 q0 q5 q6
      go_wp2_with fail
      go_ret
      exact ⟨by rw [HE.out]; rfl, HB.out.trans (HB4.out.mono HB.out.size)⟩
end Go.Proofs.Ytcpkhhammafchaa
