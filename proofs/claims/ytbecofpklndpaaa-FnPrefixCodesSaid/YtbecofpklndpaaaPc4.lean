/- Prefix codes: DecodeWith, IsPrefixCode. -/
import Derived.Test.YtbecofpklndpaaaPc3
import Derived.Deep.RegionLaw
namespace Go.Proofs.Ytbecofpklndpaaa
open Go.RowKit
set_option linter.unusedVariables false
set_option linter.unusedSimpArgs false
theorem rd_one (w : World) (y : Value) (T : Nat) : Rd (w.alloc (.cells #[y] T)) (some ⟨w.heap.size, 0, none⟩) 1 [y] := by
  refine ⟨rfl, fun _ => ⟨w.heap.size, 0, rfl, by simp, fun j u hu => ?_⟩⟩
  cases j with
  | zero => simp at hu; subst hu; exact blk_cell (box_new w #[y] T) 0 rfl
  | succ j => simp at hu
theorem ch_undA {F : Nat → Prop} {w w' : World} {o : Obj} (h : Ch F (w.alloc o).drew w') : Ch F w w' := by
  have h1 : Ch F w (w.alloc o) := ch_alloc F w o
  exact h1.trans ⟨h.os, h.tape, h.output, h.size, h.block⟩
theorem ch_cell' {F : Nat → Prop} {w w' : World} (h : Ch F w w') {p : Addr} (hp : p.block < w.heap.size) (hn : ¬ F p.block) : w'.cell? p = w.cell? p := by
  unfold World.cell?
  rw [h.block _ hp hn]
/-- What is left of the measure. -/
def leftN (N : Nat) : Value → Nat
  | .slice _ k _ => N - k
  | _ => 0
def DecPost (w : World) (xs : List Int) (e : Ending) (w' : World) : Prop := ∃ (A : Option Addr) (n c : Nat), e = .returned (.tuple #[.slice A n c, .int .i64 0]) ∧ Rd w' A n (ints xs) ∧ Below w.heap.size w w'
set_option maxHeartbeats 8000000 in
set_option maxRecDepth 100000 in
theorem DecodeWith_any (w : World) (A : Option Addr) (n c : Nat) (xss : List (List Int)) (hr : RdLc w A n xss) (hC : Code xss) (A2 : Option Addr) (m c2 : Nat) (ns : List Nat) (hr2 : Rd w A2 m (ints (encW xss ns))) (hc2 : m ≤ c2) (hm : ns.length ≤ 8) (hns : ∀ j ∈ ns, j < n) :
    Calls Try.prog 18 #[.slice A n c, .slice A2 m c2] w (DecPost w (nats ns)) := by
  have HL : Hid (xss.length = n) := Lib.hid hr.len
  have hn4 : n ≤ 4 := by have := hC.few; rw [HL.out] at this; exact this
  have hm40 : m ≤ 40 := by have h1 := enc_len hC.short ns; have h2 := hr2.1; simp at h2; omega
  have HC := Lib.hid hC; clear hC
  have HNS := Lib.hid hns; clear hns
  have HX := Lib.hid (HC.out.enc_letters ns)
  obtain ⟨N, hN⟩ : ∃ N, ns.length = N := ⟨_, rfl⟩
  rw [hN] at hm
  have HN := Lib.hid hN; clear hN
  have hg0 := box_new w #[.slice A2 m c2] 25
  have hb0 := below_new w (.cells #[.slice A2 m c2] 25)
  go_enter Try.func18, Try.ntmps18
  go_wp2_with fail
  generalize w.alloc (.cells #[.slice A2 m c2] 25) = w0 at *
  have q0 := blk_cell hg0 0 rfl
  have hr0 := hr.below hb0 (Nat.le_refl _)
  have hr20 := hr2.below hb0 (Nat.le_refl _)
  refine (areWords_any _ _ _ _ _ hr0 (by omega) HC.out).mono ?_
  rintro e w' ⟨rfl, rfl⟩
  go_wp2_with fail
  refine (IsWord_small _ _ _ _ _ hr20 (by omega) HX.out).mono ?_
  rintro e w' ⟨rfl, rfl⟩
  go_wp2_with fail
  refine (isPrefixCode_any _ _ _ _ _ hr0 HC.out).mono ?_
  rintro e w1 ⟨rfl, hb1⟩
  have hB1 := hb0.trans (hb1.mono hb0.size)
  have hg1 := blk_bel hg0 hb1
  have hok := ownA_of (own_lit w1 #[] 0 2 rfl (by omega))
  have HOK := Lib.hid hok; clear hok
  have HBA := Lib.hid (hB1.alloc (o := .cells #[] 2) hB1.size)
  have HG1 := Lib.hid (blk_alloc hg1 (.cells #[] 2))
  have hl1 := blk_lt hg1
  have HR1 := Lib.hid (hr20.below hb1 (Nat.le_refl _) |>.alloc (.cells #[] 2))
  clear q0
  go_wp2_with fail
  go_loopw [6] (fun v wr => ∃ (k : Nat) (A1 : Option Addr) (c1 : Nat) (A3 : Option Addr) (m3 c3 : Nat), k ≤ N ∧ v = .slice A1 k c1 ∧ OwnA wr 2 A1 k c1 (ints (nats (ns.take k))) ∧ Hid (∀ z, Fo (.slice A1 k c1) z → w.heap.size < z) ∧ wr.heap[w.heap.size]? = some (.cells #[.slice A3 m3 c3] 25 (0, 0)) ∧ Hid (Rd wr A3 m3 (ints (encW xss (ns.drop k)))) ∧ Hid (∀ b off, 0 < m3 → A3 = some ⟨b, off, none⟩ → b < w.heap.size) ∧ m3 ≤ c3 ∧ m3 ≤ 40 ∧ Below w.heap.size w wr) (fun v _ => leftN N v)
  case atStart =>
    refine ⟨0, _, 0, A2, m, c2, Nat.zero_le _, rfl, HOK.out, Lib.hid (fun z hz => ?_), HG1.out, HR1, Lib.hid (fun b off hp e => ?_), hc2, hm40, HBA.out⟩
    · have : w1.heap.size = z := by simpa [Fo, Value.ownBlock] using hz
      omega
    · obtain ⟨b', off', e', hlt, _⟩ := hr2.2 hp
      rw [e] at e'; injection e' with e'; injection e' with e1; omega
  case round =>
    obtain ⟨k, A1, c1, A3, m3, c3, hk, rfl, hok, HFo, hg, HR3, HA3, hc3, hm3, hb⟩ := hrel
    have q0 := blk_cell hg 0 rfl
    have f0 := blk_free hg 0
    have hgl := blk_lt hg
    by_cases h1 : k < N
    · obtain ⟨j, hj⟩ := get_some (xs := ns) (k := k) (by rw [HN.out]; omega)
      have hjn := HNS.out j (List.mem_of_getElem? hj)
      obtain ⟨a, ha⟩ := get_some (xs := xss) (k := j) (by rw [HL.out]; omega)
      have HE : Hid (encW xss (ns.drop k) = a ++ encW xss (ns.drop (k + 1))) := Lib.hid (by rw [drop_get hj, enc_cons, getD_some ha])
      have HNT : Hid (nats (ns.take (k + 1)) = nats (ns.take k) ++ [(j : Int)]) := Lib.hid (by rw [List.take_add_one, hj]; simp [nats])
      obtain ⟨b, off, A4, n4, c4, hAe, hbs, hc, hcc, hn4', hr4⟩ := hr.at_ ha
      have HA := Lib.hid ha
      have hal : a.length = n4 := by have := hr4.1; simpa using this
      have hapos : 1 ≤ n4 := by
        have h2 := (pcB_at HC.out.pc ha ha).1
        rcases Nat.eq_zero_or_pos n4 with h4 | h4
        · exact absurd (List.eq_nil_of_length_eq_zero (by omega)) h2
        · exact h4
      have hmlen : (a ++ encW xss (ns.drop (k + 1))).length = m3 := by have := HR3.out.1; rw [HE.out] at this; simpa using this
      have h43 : n4 ≤ m3 := by simp at hmlen; omega
      have HAL := Lib.hid hal
      have hdpos : decide ((0 : Int) < (m3 : Int)) = true := decide_eq_true (by omega)
      have hdpos' : decide (0 < m3) = true := decide_eq_true (by omega)
      obtain ⟨b3, off3, hA3e, hb3l, _⟩ := HR3.out.2 (by omega)
      have hb3w := HA3.out b3 off3 (by omega) hA3e
      subst hA3e hAe
      obtain ⟨off', c', hsl, HRT⟩ : ∃ off' c', Hid (∀ w, (Instr.slice 25 (.slice (some ⟨b3, off3, none⟩) m3 c3) (some (.int .i64 n4)) none none).run Try.prog w = .ok (.slice (some ⟨b3, off', none⟩) (m3 - n4) c') w ∧ m3 - n4 ≤ c') ∧ Hid (Rd wr (some ⟨b3, off', none⟩) (m3 - n4) (ints (encW xss (ns.drop (k + 1))))) := by
        have hdr : (ints (a ++ encW xss (ns.drop (k + 1)))).drop n4 = ints (encW xss (ns.drop (k + 1))) := by rw [ints_apd, List.drop_left' (by simp [HAL.out])]
        have hrd := HR3.out
        rw [HE.out] at hrd
        by_cases hcc : n4 < c3
        · refine ⟨off3 + n4 * 1, c3 - n4, Lib.hid (fun w => ⟨run_cut Try.underlying25 Try.szI w b3 off3 m3 c3 n4 (n4 : Int) .i64 rfl h43 hcc, by omega⟩), Lib.hid ?_⟩
          have h := hrd.tail n4 h43
          rw [hdr] at h
          simpa using h
        · refine ⟨off3, c3 - n4, Lib.hid (fun w => ⟨run_cut0 Try.underlying25 Try.szI w (some ⟨b3, off3, none⟩) m3 c3 n4 (n4 : Int) .i64 rfl h43 (by omega), by omega⟩), Lib.hid ?_⟩
          have h := hrd.tail n4 h43
          rw [hdr] at h
          rw [show m3 - n4 = 0 by omega] at h ⊢
          exact h.any
      have hc1 := (hb.cell (p := ⟨b, off + j, none⟩) hbs).trans hc
      have HBB := Lib.hid hb
      have HOKK := Lib.hid hok
      have HRR : Hid (Rd wr (some ⟨b3, off3, none⟩) m3 (ints (a ++ encW xss (ns.drop (k + 1))))) := Lib.hid (by rw [← HE.out]; exact HR3.out)
      clear hj ha hal hmlen hb hok
      go_wp2_with fail
      refine (indexDW wr _ n c xss (hr.below HBB.out (Nat.le_refl _)) HC.out _ m3 c3 w.heap.size _ a _ hg HRR.out (by omega) hc3 j HA.out).mono ?_
      rintro e w2 ⟨rfl, hb2⟩
      have hg2 := blk_bel hg hb2
      have hgl2 := blk_lt hg2
      clear q0 f0
      have q0 := blk_cell hg2 0 rfl
      have f0 := blk_free hg2 0
      have hc2 := (hb2.cell (p := ⟨b, off + j, none⟩) (by have := HBB.out.size; simp only; omega)).trans hc1
      have hbw : b < w2.heap.size := by have h1 := HBB.out.size; have h2 := hb2.size; omega
      have HB2 := Lib.hid (HBB.out.trans (hb2.mono HBB.out.size))
      have HO2 := Lib.hid (HOKK.out.below hb2)
      have HRT2 := Lib.hid (HRT.out.below hb2 (Nat.le_refl _))
      have hsl' := fun w => (hsl.out w).1
      have hi0 : (0 : Int) ≤ (j : Int) := by omega
      have hi1 : (j : Int) < (n : Int) := by omega
      have hneg : ¬ (j : Int) < 0 := by omega
      clear hc1 hc
      go_wp2_with fail
      have hnF : ¬ Fo (.slice A1 k c1) w.heap.size := fun h => by have := HFo.out _ h; omega
      have hnb : ¬ Fo (.slice A1 k c1) b := fun h => by have := HFo.out _ h; omega
      have HNF := Lib.hid hnF; have HNB := Lib.hid hnb
      clear hnF hnb
      (first | (go_region_law (first
        | (refine step_appA Try.eltI (by rfl) _ _ (by rfl) _ A1 (some ⟨w2.heap.size, 0, none⟩) k c1 1 1 (ints (nats (ns.take k))) [.int .i64 j] (by rfl) (by exact HO2.out.below (below_drew1 (below_new _ _))) (by rfl) (by exact rd_one _ _ _) (by simp [Value.oneCell']) (by omega) ?_
           intro A7 c7 w7 ho7 hch7 hfo7
           have hchw := ch_undA hch7
           have hx7 := blk_ch hg2 hchw HNF.out
           have z0 := blk_cell hx7 0 rfl
           have e0 := blk_free hx7 0
           have z1 := (ch_cell' hchw (p := ⟨b, off + j, none⟩) hbw HNB.out).trans hc2))) | fail)
      all_goals
        go_wp2_with fail
        go_roundw
        case rel =>
          refine ⟨k + 1, A7, c7, some ⟨b3, off', none⟩, m3 - n4, c', by omega, rfl, ?_, Lib.hid (fun z hz => ?_), blk_set hx7 0 _, Lib.hid ?_, Lib.hid (fun b0 off0 _ e => ?_), (hsl.out w).2, by omega, ?_⟩
          · rw [HNT.out, ints_apd]
            exact ho7.ch (ch_set w7 w.heap.size 0 _) (fun z h1 h2 => by
              subst h2
              rcases hfo7 _ h1 with h | h
              · exact HNF.out h
              · change (w2.alloc _).heap.size ≤ _ at h; simp at h; omega)
          · rcases hfo7 z hz with h | h
            · exact HFo.out z h
            · change (w2.alloc _).heap.size ≤ _ at h; simp at h; omega
          · have hC := hchw.mono (G := fun z => Fo (.slice A1 k c1) z ∨ z = w.heap.size) (fun z h => .inl h)
            have hC2 := hC.trans ((ch_set w7 w.heap.size 0 (.slice (some ⟨b3, off', none⟩) (m3 - n4) c')).mono (fun z h => .inr h))
            exact ch_rd HRT2.out hC2 (fun _ b0 off0 e h => by
              injection e with e
              injection e with e1
              subst e1
              rcases h with h | h
              · have := HFo.out _ h; omega
              · omega)
          · injection e with e
            injection e with e1
            omega
          · exact (below_ch HB2.out hchw (fun z h => by have := HFo.out z h; omega) HB2.out.size).setCell (Nat.le_refl _) _
        case measure => simp only [leftN]; omega
    · obtain rfl : k = N := by omega
      have HE : Hid (ns.take k = ns) := Lib.hid (List.take_of_length_le (by rw [HN.out]; omega))
      have hm0 : m3 = 0 := by
        have h2 := HR3.out.1
        rw [List.drop_of_length_le (by rw [HN.out]; omega), enc_nil] at h2
        simpa using h2.symm
      subst hm0
      have HRD := Lib.hid hok.rd; clear hok
      have HBB := Lib.hid hb; clear hb
      go_wp2_with fail
      go_ret2
      exact ⟨A1, k, c1, rfl, by rw [← HE.out]; exact HRD.out, HBB.out⟩
end Go.Proofs.Ytbecofpklndpaaa
