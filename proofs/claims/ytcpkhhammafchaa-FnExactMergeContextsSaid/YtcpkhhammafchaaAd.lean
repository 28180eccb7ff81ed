/- A context put to its place among others (reference): l29Order, l29Add. Written by mk_ad.py. -/
import Derived.Test.YtcpkhhammafchaaPt
import Derived.Test.YtcpkhhammafchaaCkM
import Derived.Test.YtcpkhhammafchaaGF
namespace Go.Proofs.Ytcpkhhammafchaa
open Go.RowKit
set_option linter.unusedVariables false
set_option linter.unusedSimpArgs false
theorem cell_off {w : World} {g i j : Nat} {u v : Value} (h : w.cell? ⟨g, i, none⟩ = some v) (hne : i ≠ j) : (w.setCell ⟨g, j, none⟩ u).cell? ⟨g, i, none⟩ = some v := by
  rw [World.cell?_setCell_other _ _ _ _ (by intro e; simp only [Addr.mk.injEq] at e; omega)]; exact h
theorem stated_ins {sts : List Int} {cs : List (List Int)} {p : Nat} {st : Int} {y : List Int} (h : sts.length = cs.length) (hp : p ≤ sts.length) : stated (insAt sts p st) (insAt cs p y) = insAt (stated sts cs) p (st :: y) := by
  unfold stated insAt
  rw [List.zipWith_append (by simp; omega), List.zipWith_cons_cons]
  congr 1
  · rw [List.take_zipWith]
  · rw [List.drop_zipWith]
/-- The box of parts that are being built. -/
abbrev SBx (w : World) (g : Nat) (z : Int) (V1 V2 : Value) (A3 : Option Addr) (c3 : Nat) (A4 : Option Addr) (c4 n : Nat) : Prop := w.heap[g]? = some (.cells #[.int .i64 z, V1, V2, .slice A3 n c3, .slice A4 n c4] 117 (0, 0))
/-- What l29Add leaves. -/
def AddQ (w : World) (g : Nat) (z : Int) (V1 V2 : Value) (A3 : Option Addr) (n c3 : Nat) (us : List Value) (A4 : Option Addr) (c4 : Nat) (sts : List Int) (cs : List (List Int)) (st : Int) (u : Value) (y : List Int) (e : Ending) (w' : World) : Prop :=
  ((st :: y) ∈ stated sts cs ∧ e = .returned (.bool false) ∧ ∃ m, w' = w.drewN m) ∨
  (¬ (st :: y) ∈ stated sts cs ∧ ∃ B3 d3 B4 d4 p, e = .returned (.bool true) ∧ p ≤ n ∧ putL (stated sts cs) (st :: y) = insAt (stated sts cs) p (st :: y) ∧ SBx w' g z V1 V2 B3 d3 B4 d4 (n + 1) ∧ w'.ownsRow 0 25 1 (.slice B3 (n + 1) d3) (n + 1) (insAt us p u) ∧ w'.ownsRow 0 2 1 (.slice B4 (n + 1) d4) (n + 1) (ints (insAt sts p st)) ∧
    Ch (fun k => k = g ∨ Fo (.slice A3 n c3) k ∨ Fo (.slice A4 n c4) k) w w' ∧ (∀ q, Fo (.slice B3 (n + 1) d3) q → Fo (.slice A3 n c3) q ∨ w.heap.size ≤ q) ∧ (∀ q, Fo (.slice B4 (n + 1) d4) q → Fo (.slice A4 n c4) q ∨ w.heap.size ≤ q))
theorem fo_ne {a b n c : Nat} (h : a ≠ b) : ∀ q, Fo (.slice (some ⟨a, 0, none⟩) n c) q → q = b → False := fun q x e => by
  have e2 : a = q := by simpa [Fo, Value.ownBlock] using x
  exact h (e2.trans e)
theorem ch_set_in {F : Nat → Prop} {w w4 : World} {g k : Nat} {u : Value} (hc : Ch F w w4) (hf : F g ∨ w.heap.size ≤ g) : Ch F w (w4.setCell ⟨g, k, none⟩ u) := by
  have hs := ch_set w4 g k u
  exact ⟨hs.os.trans hc.os, hs.tape.trans hc.tape, hs.output.trans hc.output, Nat.le_trans hc.size hs.size, fun q hq hn => by
    have e : ¬ q = g := fun e => by
      subst e
      rcases hf with h | h
      · exact hn h
      · omega
    rw [hs.block q (Nat.lt_of_lt_of_le hq hc.size) e, hc.block q hq hn]⟩
theorem ints_ins {xs : List Int} {p : Nat} {x : Int} : ints (insAt xs p x) = insAt (ints xs) p (.int .i64 x) := by simp [insAt, ints, List.map_take, List.map_drop]
set_option maxHeartbeats 16000000 in
set_option maxRecDepth 100000 in
theorem l29Add_any (w : World) (g : Nat) (z : Int) (V1 V2 : Value) (A3 : Option Addr) (n c3 : Nat) (us : List Value) (A4 : Option Addr) (c4 : Nat) (sts : List Int) (cs : List (List Int)) (hb : SBx w g z V1 V2 A3 c3 A4 c4 n) (hx : OwnX w A3 n c3 us cs) (ho : w.ownsRow 0 2 1 (.slice A4 n c4) n (ints sts)) (hn : n ≤ 1000000) (hri : Rises (stated sts cs)) (st : Int) (A2 : Option Addr) (n2 c2 : Nat) (y : List Int) (hr : Rd w A2 n2 (ints y)) (hn2 : n2 ≤ 1000000) :
    Calls Try.prog 77 #[.pointer (some ⟨g, 0, none⟩), .int .i64 st, .slice A2 n2 c2] w (AddQ w g z V1 V2 A3 n c3 us A4 c4 sts cs st (.slice A2 n2 c2) y) := by
  have HCL : Hid (cs.length = n) := Lib.hid hx.ownp.rdl.len
  have HSL : Hid (sts.length = n) := Lib.hid (by have h := ho.1; simpa using h)
  have HUL : Hid (us.length = n) := Lib.hid (by simpa using hx.1.1)
  have HBX := Lib.hid hb; have HX := Lib.hid hx; have HO := Lib.hid ho; have HRI := Lib.hid hri; have HR := Lib.hid hr
  have HZL : Hid ((stated sts cs).length = n) := Lib.hid (by unfold stated; simp; have := HCL.out; have := HSL.out; omega)
  have HG3 : Hid (¬ Fo (.slice A3 n c3) g) := Lib.hid (fun h => by obtain ⟨ds, h1⟩ := own_fo hx.1 h; exact blk_ne hb h1 (by decide) rfl)
  have HG4 : Hid (¬ Fo (.slice A4 n c4) g) := Lib.hid (fun h => by obtain ⟨ds, h1⟩ := own_fo ho h; exact blk_ne hb h1 (by decide) rfl)
  have x3 : w.cell? ⟨g, 3, none⟩ = some (.slice A3 n c3) := blk_cell hb 3 rfl
  clear hb hx ho hri hr
  go_enter Try.func77, Try.ntmps77
  go_wp2_with fail
  clear x3
  go_loopw [7] (fun q wr => ∃ p : Nat, q = .int .i64 p ∧ Hid (SeekP (stated sts cs) (st :: y) n p) ∧ ∃ m, wr = w.drewN m) (fun q _ => (intOf q).toNat)
  case atStart => exact ⟨n, rfl, Lib.hid ⟨Nat.le_refl _, fun j x hj hp => by have := (List.getElem?_eq_some_iff.1 hj).1; have := HZL.out; omega⟩, 0, rfl⟩
  case round =>
    as_aux_lemma =>
    obtain ⟨p, rfl, HS, m, rfl⟩ := hrel
    have hpn : p ≤ n := HS.out.1
    obtain ⟨wm, hwm⟩ : ∃ wm, wm = w.drewN m := ⟨_, rfl⟩
    have HWM := Lib.hid hwm
    have HBM : Hid (SBx wm g z V1 V2 A3 c3 A4 c4 n) := Lib.hid (by rw [hwm]; exact HBX.out)
    rw [← hwm]
    have x3 : wm.cell? ⟨g, 3, none⟩ = some (.slice A3 n c3) := blk_cell HBM.out 3 rfl
    have x4 : wm.cell? ⟨g, 4, none⟩ = some (.slice A4 n c4) := blk_cell HBM.out 4 rfl
    clear hwm
    rcases Nat.eq_zero_or_pos p with hz | hp
    · subst hz
      have HNI : Hid (¬ (st :: y) ∈ stated sts cs) := Lib.hid (fun hin => by
        obtain ⟨i, hi⟩ := List.mem_iff_getElem?.1 hin
        have h5 := HS.out.2 i _ hi (Nat.zero_le _)
        rw [cmpL_self0] at h5; omega)
      have HPL : Hid (putL (stated sts cs) (st :: y) = insAt (stated sts cs) 0 (st :: y)) := Lib.hid (putL_ins (Nat.zero_le _) (fun j x _ h => by omega) (fun j x h1 h2 => HS.out.2 j x h1 h2))
      go_wp2_with fail
      (first | (go_quiet (fail)) | fail)
      all_goals
        as_aux_lemma =>
        obtain ⟨wn, hwn⟩ : ∃ wn, wn = wm.drewN nq := ⟨_, rfl⟩
        rw [← hwn]
        obtain ⟨j1, hj1⟩ : ∃ j, wn = w.drewN j := ⟨m + nq, by rw [hwn, HWM.out, World.drewN_drewN]⟩
        have HWN := Lib.hid hj1
        have HBN : Hid (SBx wn g z V1 V2 A3 c3 A4 c4 n) := Lib.hid (by rw [hwn]; exact HBM.out)
        clear x3 x4 hj1
        have x3 : wn.cell? ⟨g, 3, none⟩ = some (.slice A3 n c3) := blk_cell HBN.out 3 rfl
        have x4 : wn.cell? ⟨g, 4, none⟩ = some (.slice A4 n c4) := blk_cell HBN.out 4 rfl
        clear hwn
        go_wp2_with fail
        (first | (go_quiet (fail)) | fail)
        all_goals
          as_aux_lemma =>
          obtain ⟨wt, hwt⟩ : ∃ wt, wt = wn.drewN nq := ⟨_, rfl⟩
          rw [← hwt]
          have HWT : Hid (wt = w.drewN (j1 + nq)) := Lib.hid (by rw [hwt, HWN.out, World.drewN_drewN])
          have HBT : Hid (SBx wt g z V1 V2 A3 c3 A4 c4 n) := Lib.hid (by rw [hwt]; exact HBN.out)
          clear x3 x4
          have x3 : wt.cell? ⟨g, 3, none⟩ = some (.slice A3 n c3) := blk_cell HBT.out 3 rfl
          have x4 : wt.cell? ⟨g, 4, none⟩ = some (.slice A4 n c4) := blk_cell HBT.out 4 rfl
          clear hwt
          have HXC : Hid (wt.ownsRow 0 25 1 (.slice A3 n c3) n us) := Lib.hid (by rw [HWT.out]; exact HX.out.1)
          have HOC : Hid (wt.ownsRow 0 2 1 (.slice A4 n c4) n (ints sts)) := Lib.hid (by rw [HWT.out]; exact HO.out)
          have hg0 := blk_lt HBT.out
          have HGL := Lib.hid hg0
          have HSZ : Hid (wt.heap.size = w.heap.size) := Lib.hid (by rw [HWT.out]; rfl)
          clear hg0
          go_upto_region 7 with (at_builtin
                                 go_must (refine wpList_app1O Try.eltS rfl _ _ rfl wt 0 A3 n c3 us (by rfl) HXC.out (.slice none 0 0) rfl (by rfl) (by omega) ?_)
                                 intro B3 d3 w4 ho4 hc4 hf4
                                 have hb4 := blk_ch HBT.out hc4 HG3.out
                                 have y3 : w4.cell? ⟨g, 3, none⟩ = some (.slice A3 n c3) := blk_cell hb4 3 rfl
                                 have f3 : w4.frozen? ⟨g, 3, none⟩ = false := blk_free hb4 3)
          obtain ⟨b5, rfl⟩ : ∃ b5, B3 = some ⟨b5, 0, none⟩ := own_addr ho4 (Nat.succ_pos _)
          obtain ⟨w5, hw5⟩ : ∃ w5, w5 = w4.setCell ⟨g, 3, none⟩ (.slice (some ⟨b5, 0, none⟩) (n + 1) d3) := ⟨_, rfl⟩
          have hgb : ∀ q, Fo (.slice (some ⟨b5, 0, none⟩) (n + 1) d3) q → q ≠ g := fun q hq e => by subst e; rcases hf4 q hq with h | h; exact HG3.out h; have := HGL.out; omega
          have HB5 : Hid (SBx w5 g z V1 V2 (some ⟨b5, 0, none⟩) d3 A4 c4 n ∨ True) := Lib.hid (.inr trivial)
          have HBB5 : Hid (w5.heap[g]? = some (.cells #[.int .i64 z, V1, V2, .slice (some ⟨b5, 0, none⟩) (n + 1) d3, .slice A4 n c4] 117 (0, 0))) := Lib.hid (by rw [hw5]; have h := blk_set hb4 3 (.slice (some ⟨b5, 0, none⟩) (n + 1) d3); simpa using h)
          have HO35 : Hid (w5.ownsRow 0 25 1 (.slice (some ⟨b5, 0, none⟩) (n + 1) d3) (n + 1) (insAt us n (.slice none 0 0))) := Lib.hid (by rw [hw5, ← ins_end HUL.out]; exact own_ch ho4 (ch_set w4 g 3 _) (fun q a b => hgb q a b))
          have HO45 : Hid (w5.ownsRow 0 2 1 (.slice A4 n c4) n (ints sts)) := Lib.hid (by rw [hw5]; exact own_ch (own_ch HOC.out hc4 (fun q a b => by obtain ⟨ds, h1⟩ := own_fo HOC.out a; obtain ⟨es, h2⟩ := own_fo HXC.out b; exact blk_ne h1 h2 (by decide) rfl)) (ch_set w4 g 3 _) (fun q a b => HG4.out (b ▸ a)))
          have HC5 : Hid (Ch (fun k => k = g ∨ Fo (.slice A3 n c3) k ∨ Fo (.slice A4 n c4) k) w w5) := Lib.hid (by
            have h1 : Ch (fun k => k = g ∨ Fo (.slice A3 n c3) k ∨ Fo (.slice A4 n c4) k) w wt := by rw [HWT.out]; exact ch_drewN (Ch.refl _ _)
            rw [hw5]
            exact (h1.trans (hc4.mono (fun k hk => .inr (.inl hk)))).trans ((ch_set w4 g 3 _).mono (fun k hk => .inl hk)))
          have HF5 : Hid (∀ q, Fo (.slice (some ⟨b5, 0, none⟩) (n + 1) d3) q → Fo (.slice A3 n c3) q ∨ w.heap.size ≤ q) := Lib.hid (fun q hq => (hf4 q hq).imp id (fun h => by have := HSZ.out; omega))
          have HG5 : Hid (∀ q, Fo (.slice (some ⟨b5, 0, none⟩) (n + 1) d3) q → q ≠ g) := Lib.hid hgb
          rw [← hw5]
          clear hw5 hgb hf4 hc4 ho4 hb4 y3 f3 x3 x4
          have x4 : w5.cell? ⟨g, 4, none⟩ = some (.slice A4 n c4) := blk_cell HBB5.out 4 rfl
          go_upto_region 8 with (at_builtin
                                 go_must (refine wpList_app1O Try.eltI rfl _ _ rfl w5 0 A4 n c4 (ints sts) (by rfl) HO45.out (.int .i64 0) rfl (by rfl) (by omega) ?_)
                                 intro B4 d4 w6 ho6 hc6 hf6
                                 have hb6 := blk_ch HBB5.out hc6 HG4.out
                                 have y4 : w6.cell? ⟨g, 4, none⟩ = some (.slice A4 n c4) := blk_cell hb6 4 rfl
                                 have f4 : w6.frozen? ⟨g, 4, none⟩ = false := blk_free hb6 4)
          obtain ⟨b6, rfl⟩ : ∃ b6, B4 = some ⟨b6, 0, none⟩ := own_addr ho6 (Nat.succ_pos _)
          obtain ⟨w7, hw7⟩ : ∃ w7, w7 = w6.setCell ⟨g, 4, none⟩ (.slice (some ⟨b6, 0, none⟩) (n + 1) d4) := ⟨_, rfl⟩
          have hg5 := blk_lt HBB5.out
          have hgb : ∀ q, Fo (.slice (some ⟨b6, 0, none⟩) (n + 1) d4) q → q ≠ g := fun q hq e => by subst e; rcases hf6 q hq with h | h; exact HG4.out h; omega
          have HBB7 : Hid (SBx w7 g z V1 V2 (some ⟨b5, 0, none⟩) d3 (some ⟨b6, 0, none⟩) d4 (n + 1)) := Lib.hid (by rw [hw7]; have h := blk_set hb6 4 (.slice (some ⟨b6, 0, none⟩) (n + 1) d4); simpa using h)
          have HO37 : Hid (w7.ownsRow 0 25 1 (.slice (some ⟨b5, 0, none⟩) (n + 1) d3) (n + 1) (insAt us n (.slice none 0 0))) := Lib.hid (by rw [hw7]; exact own_ch (own_ch HO35.out hc6 (fun q a b => by obtain ⟨ds, h1⟩ := own_fo HO35.out a; obtain ⟨es, h2⟩ := own_fo HO45.out b; exact blk_ne h1 h2 (by decide) rfl)) (ch_set w6 g 4 _) (fun q a b => HG5.out q a b))
          have HO47 : Hid (w7.ownsRow 0 2 1 (.slice (some ⟨b6, 0, none⟩) (n + 1) d4) (n + 1) (insAt (ints sts) n (.int .i64 0))) := Lib.hid (by rw [hw7, ← ins_end (us := ints sts) (by simpa using HSL.out)]; exact own_ch ho6 (ch_set w6 g 4 _) (fun q a b => hgb q a b))
          have HC7 : Hid (Ch (fun k => k = g ∨ Fo (.slice A3 n c3) k ∨ Fo (.slice A4 n c4) k) w w7) := Lib.hid (by rw [hw7]; exact (HC5.out.trans (hc6.mono (fun k hk => .inr (.inr hk)))).trans ((ch_set w6 g 4 _).mono (fun k hk => .inl hk)))
          have HF7 : Hid (∀ q, Fo (.slice (some ⟨b6, 0, none⟩) (n + 1) d4) q → Fo (.slice A4 n c4) q ∨ w.heap.size ≤ q) := Lib.hid (fun q hq => (hf6 q hq).imp id (fun h => Nat.le_trans HC5.out.size h))
          have HB56 : Hid (b5 ≠ g ∧ b6 ≠ g ∧ b5 ≠ b6) := Lib.hid ⟨HG5.out b5 rfl, hgb b6 rfl, fun e => by obtain ⟨ds, h1⟩ := own_fo HO37.out (k := b5) rfl; obtain ⟨es, h2⟩ := own_fo HO47.out (k := b6) rfl; exact blk_ne h1 h2 (by decide) e⟩
          rw [← hw7]
          clear hw7 hgb hf6 hc6 ho6 hb6 y4 f4 x4 hg5
          have y3 : w7.cell? ⟨g, 3, none⟩ = some (.slice (some ⟨b5, 0, none⟩) (n + 1) d3) := blk_cell HBB7.out 3 rfl
          have hen : IntKind.i64.wrap ((n : Int) + 1 - 1) = (n : Int) := by rw [IntWalk.i64_in _ (by omega)]; omega
          as_aux_lemma =>
          go_wp2_with fail
          clear y3 hen
          go_loopw [8] (fun q wx => ∃ (k : Nat) (v3 v4 : Value), q = .int .i64 k ∧ 0 ≤ k ∧ k ≤ n ∧ Hid (wx.ownsRow 0 25 1 (.slice (some ⟨b5, 0, none⟩) (n + 1) d3) (n + 1) (insAt us k v3)) ∧ Hid (wx.ownsRow 0 2 1 (.slice (some ⟨b6, 0, none⟩) (n + 1) d4) (n + 1) (insAt (ints sts) k v4)) ∧ Hid (SBx wx g z V1 V2 (some ⟨b5, 0, none⟩) d3 (some ⟨b6, 0, none⟩) d4 (n + 1)) ∧ Hid (Ch (fun k => k = g ∨ Fo (.slice A3 n c3) k ∨ Fo (.slice A4 n c4) k) w wx)) (fun q _ => (intOf q).toNat)
          case atStart => exact ⟨n, _, _, rfl, by omega, Nat.le_refl _, HO37, HO47, HBB7, HC7⟩
          case round =>
            as_aux_lemma =>
            obtain ⟨k, v3, v4, rfl, hpk, hkn, HO3, HO4, HBR, HCR⟩ := hrel
            have hi1 : (k : Int) < (n : Int) + 1 := by omega
            have hi2 : k < n + 1 := by omega
            obtain ⟨⟨vz3, hz3⟩, hfr3⟩ := own_cell0 HO3.out (j := k) (by omega)
            obtain ⟨⟨vz4, hz4⟩, hfr4⟩ := own_cell0 HO4.out (j := k) (by omega)
            have y3 : wr.cell? ⟨g, 3, none⟩ = some (.slice (some ⟨b5, 0, none⟩) (n + 1) d3) := blk_cell HBR.out 3 rfl
            have y4 : wr.cell? ⟨g, 4, none⟩ = some (.slice (some ⟨b6, 0, none⟩) (n + 1) d4) := blk_cell HBR.out 4 rfl
            by_cases hlt : 0 < k
            · have hlt' : (0 : Int) < (k : Int) := by omega
              obtain ⟨u, hu⟩ := get_some (xs := us) (k := k - 1) (by rw [HUL.out]; omega)
              obtain ⟨s1, hs1⟩ := get_some (xs := sts) (k := k - 1) (by rw [HSL.out]; omega)
              have HU := Lib.hid hu; have HS1 := Lib.hid hs1
              have h3i : (insAt us k v3)[k - 1]? = some u := by rw [ins_get (by omega) (by rw [HUL.out]; omega)]; exact hu
              have h4i : (insAt (ints sts) k v4)[k - 1]? = some (.int .i64 s1) := by rw [ins_get (by omega) (by have := HSL.out; simp; omega)]; exact ints_get hs1
              obtain ⟨bx, ox, e1, hbx, q3⟩ := (own_rd HO3.out).at_ h3i
              injection e1 with e1
              injection e1 with e1 e2
              subst e1 e2
              obtain ⟨bx, ox, e1, hbx2, q4⟩ := (own_rd HO4.out).at_ h4i
              injection e1 with e1
              injection e1 with e1 e2
              subst e1 e2
              rw [Nat.zero_add] at q3 q4
              have HOX : Hid (∃ A7 n7 c7, u = .slice A7 n7 c7) := Lib.hid (by
                obtain ⟨y7, hy7⟩ := get_some (xs := cs) (k := k - 1) (by rw [HCL.out]; omega)
                obtain ⟨A7, n7, c7, e7, _⟩ := HX.out.2.2.1 (k - 1) u y7 hu hy7
                exact ⟨A7, n7, c7, e7⟩)
              obtain ⟨A7, n7, c7, rfl⟩ := HOX.out
              have hw1 : IntKind.i64.wrap ((k : Int) - 1) = ((k - 1 : Nat) : Int) := by rw [IntWalk.i64_in _ (by omega)]; omega
              have hj1 : k - 1 < n + 1 := by omega
              have hj2 : ((k - 1 : Nat) : Int) < (n : Int) + 1 := by omega
              have hkk : k - 1 ≠ k := by omega
              obtain ⟨k1, hk1⟩ : ∃ k1, k1 = k - 1 := ⟨_, rfl⟩
              rw [← hk1] at hw1 hj1 hj2 q3 q4 hkk
              have HK1 := Lib.hid hk1
              obtain ⟨hg5, hg6, h56⟩ := HB56.out
              have hg5' : g ≠ b5 := fun e => hg5 e.symm
              have hg6' : g ≠ b6 := fun e => hg6 e.symm
              have h56' : b6 ≠ b5 := fun e => h56 e.symm
              clear hu hs1 h3i h4i hk1 hbx hbx2
              go_wp2_with fail
              (first | (go_region_held3 (fun w' => w'.cell? ⟨g, 3, none⟩ = some (.slice (some ⟨b5, 0, none⟩) (n + 1) d3) ∧ w'.cell? ⟨b5, k1, none⟩ = some (.slice A7 n7 c7)) (first | exact ⟨by assumption, by assumption⟩ | exact ⟨cell_far (by assumption) hg5', cell_off (by assumption) hkk⟩ | go_keep) (fail)) | fail)
              all_goals
                as_aux_lemma =>
                obtain ⟨w8, hw8⟩ : ∃ w8, w8 = (wr.setCell ⟨b5, k, none⟩ (.slice A7 n7 c7)).drew := ⟨_, rfl⟩
                have z4 : w8.cell? ⟨g, 4, none⟩ = some (.slice (some ⟨b6, 0, none⟩) (n + 1) d4) := by rw [hw8]; exact (cell_far y4 hg5' : (wr.setCell ⟨b5, k, none⟩ (.slice A7 n7 c7)).cell? _ = _)
                have z4b : w8.cell? ⟨b6, k1, none⟩ = some (.int .i64 s1) := by rw [hw8]; exact (cell_far q4 h56' : (wr.setCell ⟨b5, k, none⟩ (.slice A7 n7 c7)).cell? _ = _)
                have z4c : w8.cell? ⟨b6, k, none⟩ = some vz4 := by rw [hw8]; exact (cell_far hz4 h56' : (wr.setCell ⟨b5, k, none⟩ (.slice A7 n7 c7)).cell? _ = _)
                have z4f : w8.frozen? ⟨b6, k, none⟩ = false := by rw [hw8]; exact (by rw [World.frozen?_setCell]; exact hfr4 : (wr.setCell ⟨b5, k, none⟩ (.slice A7 n7 c7)).frozen? _ = false)
                have H38 : Hid (w8.ownsRow 0 25 1 (.slice (some ⟨b5, 0, none⟩) (n + 1) d3) (n + 1) (insAt us k1 (.slice A7 n7 c7))) := Lib.hid (by
                  rw [hw8, HK1.out]
                  have h2 := own_put HO3.out k (.slice A7 n7 c7)
                  rw [ins_set (by omega) (by rw [HUL.out]; omega) HU.out] at h2
                  exact h2)
                have H48 : Hid (w8.ownsRow 0 2 1 (.slice (some ⟨b6, 0, none⟩) (n + 1) d4) (n + 1) (insAt (ints sts) k v4)) := Lib.hid (by
                  rw [hw8]
                  exact own_ch HO4.out (ch_drewN (n := 1) (ch_set wr b5 k _)) (fo_ne h56'))
                have HB8 : Hid (SBx w8 g z V1 V2 (some ⟨b5, 0, none⟩) d3 (some ⟨b6, 0, none⟩) d4 (n + 1)) := Lib.hid (by
                  rw [hw8]
                  exact blk_ch HBR.out (ch_drewN (n := 1) (ch_set wr b5 k _)) hg5')
                have HC8 : Hid (Ch (fun k => k = g ∨ Fo (.slice A3 n c3) k ∨ Fo (.slice A4 n c4) k) w w8) := Lib.hid (by
                  rw [hw8]
                  exact ch_drewN (n := 1) (ch_set_in HCR.out ((HF5.out b5 rfl).imp (fun h => .inr (.inl h)) id)))
                rw [← hw8]
                clear hw8 y3 y4 q3 q4 hz3 hz4 hfr3 hfr4
                go_wp2_with fail
                (first | (go_region_held3 (fun w' => w'.cell? ⟨g, 4, none⟩ = some (.slice (some ⟨b6, 0, none⟩) (n + 1) d4) ∧ w'.cell? ⟨b6, k1, none⟩ = some (.int .i64 s1)) (first | exact ⟨by assumption, by assumption⟩ | exact ⟨cell_far (by assumption) hg6', cell_off (by assumption) hkk⟩ | go_keep) (fail)) | fail)
                all_goals
                  as_aux_lemma =>
                  obtain ⟨w9, hw9⟩ : ∃ w9, w9 = (w8.setCell ⟨b6, k, none⟩ (.int .i64 s1)).drew := ⟨_, rfl⟩
                  have H39 : Hid (w9.ownsRow 0 25 1 (.slice (some ⟨b5, 0, none⟩) (n + 1) d3) (n + 1) (insAt us k1 (.slice A7 n7 c7))) := Lib.hid (by
                    rw [hw9]
                    exact own_ch H38.out (ch_drewN (n := 1) (ch_set w8 b6 k _)) (fo_ne h56))
                  have H49 : Hid (w9.ownsRow 0 2 1 (.slice (some ⟨b6, 0, none⟩) (n + 1) d4) (n + 1) (insAt (ints sts) k1 (.int .i64 s1))) := Lib.hid (by
                    rw [hw9, HK1.out]
                    have h2 := own_put H48.out k (.int .i64 s1)
                    rw [ins_set (by omega) (by have := HSL.out; simp; omega) (ints_get HS1.out)] at h2
                    exact h2)
                  have HB9 : Hid (SBx w9 g z V1 V2 (some ⟨b5, 0, none⟩) d3 (some ⟨b6, 0, none⟩) d4 (n + 1)) := Lib.hid (by
                    rw [hw9]
                    exact blk_ch HB8.out (ch_drewN (n := 1) (ch_set w8 b6 k _)) hg6')
                  have HC9 : Hid (Ch (fun k => k = g ∨ Fo (.slice A3 n c3) k ∨ Fo (.slice A4 n c4) k) w w9) := Lib.hid (by
                    rw [hw9]
                    exact ch_drewN (n := 1) (ch_set_in HC8.out ((HF7.out b6 rfl).imp (fun h => .inr (.inr h)) id)))
                  rw [← hw9]
                  clear hw9 z4 z4b z4c z4f
                  go_wp2_with fail
                  go_roundw
                  case rel => exact ⟨k1, .slice A7 n7 c7, .int .i64 s1, rfl, (by have := HK1.out; omega), (by have := HK1.out; omega), H39, H49, HB9, HC9⟩
                  case measure => have := HK1.out; simp only [intOf]; omega
            · obtain rfl : 0 = k := by omega
              have hlt' : ¬ (0 : Int) < (0 : Int) := by omega
              obtain ⟨hg5, hg6, h56⟩ := HB56.out
              have hg5' : g ≠ b5 := fun e => hg5 e.symm
              have h56' : b6 ≠ b5 := fun e => h56 e.symm
              go_upto_region 14 with fail
              as_aux_lemma =>
              obtain ⟨w8, hw8⟩ : ∃ w8, w8 = wr.setCell ⟨b5, 0, none⟩ (.slice A2 n2 c2) := ⟨_, rfl⟩
              have z4 : w8.cell? ⟨g, 4, none⟩ = some (.slice (some ⟨b6, 0, none⟩) (n + 1) d4) := by rw [hw8]; exact cell_far y4 hg5'
              have z4c : w8.cell? ⟨b6, 0, none⟩ = some vz4 := by rw [hw8]; exact cell_far hz4 h56'
              have z4f : w8.frozen? ⟨b6, 0, none⟩ = false := by rw [hw8, World.frozen?_setCell]; exact hfr4
              have HW8 := Lib.hid hw8
              rw [← hw8]
              clear hw8 y3 y4 hz3 hz4 hfr3 hfr4
              go_wp2_with fail
              go_ret
              refine .inr ⟨HNI.out, some ⟨b5, 0, none⟩, d3, some ⟨b6, 0, none⟩, d4, 0, rfl, hpn, HPL.out, ?_, ?_, ?_, ?_, HF5.out, HF7.out⟩
              · refine blk_ch ?_ (ch_set w8 b6 0 _) (fun e => hg6 e.symm)
                rw [HW8.out]
                exact blk_ch HBR.out (ch_set wr b5 0 _) hg5'
              · refine own_ch ?_ (ch_set w8 b6 0 _) (fo_ne h56)
                rw [HW8.out]
                have h := own_put HO3.out 0 (.slice A2 n2 c2)
                rw [ins_put (by rw [HUL.out]; omega)] at h
                exact h
              · have h4 : w8.ownsRow 0 2 1 (.slice (some ⟨b6, 0, none⟩) (n + 1) d4) (n + 1) (insAt (ints sts) 0 v4) := by
                  rw [HW8.out]
                  exact own_ch HO4.out (ch_set wr b5 0 _) (fo_ne h56')
                have h := own_put h4 0 (.int .i64 st)
                rw [ins_put (by have := HSL.out; simp only [List.length_map]; omega), ← ints_ins] at h
                exact h
              · refine ch_set_in ?_ ((HF7.out b6 rfl).imp (fun h => .inr (.inr h)) id)
                rw [HW8.out]
                exact ch_set_in HCR.out ((HF5.out b5 rfl).imp (fun h => .inr (.inl h)) id)
    · obtain ⟨sk, hsk⟩ := get_some (xs := sts) (k := p - 1) (by rw [HSL.out]; omega)
      obtain ⟨xk, hxk⟩ := get_some (xs := cs) (k := p - 1) (by rw [HCL.out]; omega)
      have hzk : (stated sts cs)[p - 1]? = some (sk :: xk) := by unfold stated; rw [List.getElem?_zipWith, hsk, hxk]
      have HZK := Lib.hid hzk
      obtain ⟨b4, o4, rfl, hb4, hc4⟩ := (own_rd HO.out).at_ (ints_get hsk)
      obtain ⟨b3, o3, A5, n5, c5, rfl, hb3, hc3, hn5, hr5⟩ := HX.out.ownp.rdl.at_ hxk
      have hp' : (0 : Int) < (p : Int) := by omega
      have hw1 : IntKind.i64.wrap ((p : Int) - 1) = ((p - 1 : Nat) : Int) := by rw [IntWalk.i64_in _ (by omega)]; omega
      have hi1 : p - 1 < n := by omega
      have hi2 : ((p - 1 : Nat) : Int) < (n : Int) := by omega
      obtain ⟨p1, hp1⟩ : ∃ p1, p1 = p - 1 := ⟨_, rfl⟩
      rw [← hp1] at hw1 hi1 hi2 hc3 hc4
      have HP1 := Lib.hid hp1
      have q3 : wm.cell? ⟨b3, o3 + p1, none⟩ = some (.slice A5 n5 c5) := by rw [HWM.out]; exact hc3
      have q4 : wm.cell? ⟨b4, o4 + p1, none⟩ = some (.int .i64 sk) := by rw [HWM.out]; exact hc4
      have hord : ∀ (wx : World), (∃ j, wx = w.drewN j) → ∀ k, Calls Try.prog 122 #[.int .i64 sk, .slice A5 n5 c5, .int .i64 st, .slice A2 n2 c2] (wx.drewN k) (DrP (wx.drewN k) (.int .i64 (cmpL (sk :: xk) (st :: y)))) := fun wx hwx k => by
        obtain ⟨j, rfl⟩ := hwx
        exact l29Order_any ((w.drewN j).drewN k) A5 A2 n5 c5 n2 c2 sk st xk y (by have h := hr5; exact h) (by have h := HR.out; exact h) hn5 (by omega)
      have HORD : Hid (∀ (wx : World), (∃ j, wx = w.drewN j) → ∀ k, Calls Try.prog 122 #[.int .i64 sk, .slice A5 n5 c5, .int .i64 st, .slice A2 n2 c2] (wx.drewN k) (DrP (wx.drewN k) (.int .i64 (cmpL (sk :: xk) (st :: y))))) := Lib.hid hord
      clear hord hsk hxk hzk hc3 hc4 hb3 hb4 hp1 hr5
      have HP0 := Lib.hid hp
      have HQ3 := Lib.hid q3; have HQ4 := Lib.hid q4
      obtain ⟨o, ho⟩ : ∃ o, o = cmpL (sk :: xk) (st :: y) := ⟨_, rfl⟩
      rw [← ho] at HORD
      have HOE := Lib.hid ho
      clear ho
      have HORM := Lib.hid (fun k => Calls.quiet_of (HORD.out wm ⟨m, HWM.out⟩ k))
      rcases Int.lt_trichotomy o 0 with hlt | heq | hgt
      · have hng : ¬ (0 : Int) < o := by omega
        have hngd : decide ((0 : Int) < o) = false := decide_eq_false hng
        have hne : (o == 0) = false := by simp; omega
        have hne2 : ¬ o = 0 := by omega
        have HPL : Hid (putL (stated sts cs) (st :: y) = insAt (stated sts cs) p (st :: y)) := Lib.hid (putL_ins (by rw [HZL.out]; omega) (fun j x h1 h2 => by
          have h0 : cmpL (sk :: xk) (st :: y) < 0 := by rw [← HOE.out]; exact hlt
          rcases Nat.lt_or_ge j (p - 1) with h3 | h3
          · exact cmpL_tri (rises_lt HRI.out h1 HZK.out h3) h0
          · obtain rfl : j = p - 1 := by omega
            rw [HZK.out] at h1; injection h1 with h1; subst h1; exact h0) (fun j x h1 h2 => HS.out.2 j x h1 h2))
        have HNI : Hid (¬ (st :: y) ∈ stated sts cs) := Lib.hid (fun hin => by
          obtain ⟨i, hi⟩ := List.mem_iff_getElem?.1 hin
          rcases Nat.lt_or_ge i p with h3 | h3
          · have h0 : cmpL (sk :: xk) (st :: y) < 0 := by rw [← HOE.out]; exact hlt
            rcases Nat.lt_or_ge i (p - 1) with h4 | h4
            · have h5 := rises_lt HRI.out hi HZK.out h4
              have h6 := cmpL_tri h5 h0
              rw [cmpL_self0] at h6; omega
            · obtain rfl : i = p - 1 := by omega
              rw [HZK.out] at hi; injection hi with hi; rw [hi, cmpL_self0] at h0; omega
          · have h5 := HS.out.2 i _ hi h3
            rw [cmpL_self0] at h5; omega)
        clear hlt
        go_wp2_with fail
        (first | (go_quiet ((go_at_call 122; with_reducible exact HORM.out _))) | fail)
        all_goals
          as_aux_lemma =>
          obtain ⟨wn, hwn⟩ : ∃ wn, wn = wm.drewN nq := ⟨_, rfl⟩
          rw [← hwn]
          obtain ⟨j1, hj1⟩ : ∃ j, wn = w.drewN j := ⟨m + nq, by rw [hwn, HWM.out, World.drewN_drewN]⟩
          have HWN := Lib.hid hj1
          clear hj1
          have HBN : Hid (SBx wn g z V1 V2 (some ⟨b3, o3, none⟩) c3 (some ⟨b4, o4, none⟩) c4 n) := Lib.hid (by rw [hwn]; exact HBM.out)
          have HORN := Lib.hid (fun k => Calls.quiet_of (HORD.out wn ⟨j1, HWN.out⟩ k))
          clear x3 x4 q3 q4
          have x3 : wn.cell? ⟨g, 3, none⟩ = some (.slice (some ⟨b3, o3, none⟩) n c3) := blk_cell HBN.out 3 rfl
          have x4 : wn.cell? ⟨g, 4, none⟩ = some (.slice (some ⟨b4, o4, none⟩) n c4) := blk_cell HBN.out 4 rfl
          have q3 : wn.cell? ⟨b3, o3 + p1, none⟩ = some (.slice A5 n5 c5) := by rw [hwn]; exact HQ3.out
          have q4 : wn.cell? ⟨b4, o4 + p1, none⟩ = some (.int .i64 sk) := by rw [hwn]; exact HQ4.out
          clear hwn
          have HQQ := Lib.hid (rfl : nq = nq)
          go_wp2_with fail
          (first | (go_quiet ((go_at_call 122; with_reducible exact HORN.out _))) | fail)
          all_goals
            as_aux_lemma =>
            obtain ⟨wt, hwt⟩ : ∃ wt, wt = wn.drewN nq := ⟨_, rfl⟩
            rw [← hwt]
            have HWT : Hid (wt = w.drewN (j1 + nq)) := Lib.hid (by rw [hwt, HWN.out, World.drewN_drewN])
            have HBT : Hid (SBx wt g z V1 V2 (some ⟨b3, o3, none⟩) c3 (some ⟨b4, o4, none⟩) c4 n) := Lib.hid (by rw [hwt]; exact HBN.out)
            clear x3 x4 q3 q4
            have x3 : wt.cell? ⟨g, 3, none⟩ = some (.slice (some ⟨b3, o3, none⟩) n c3) := blk_cell HBT.out 3 rfl
            have x4 : wt.cell? ⟨g, 4, none⟩ = some (.slice (some ⟨b4, o4, none⟩) n c4) := blk_cell HBT.out 4 rfl
            clear hwt
            have HXC : Hid (wt.ownsRow 0 25 1 (.slice (some ⟨b3, o3, none⟩) n c3) n us) := Lib.hid (by rw [HWT.out]; exact HX.out.1)
            have HOC : Hid (wt.ownsRow 0 2 1 (.slice (some ⟨b4, o4, none⟩) n c4) n (ints sts)) := Lib.hid (by rw [HWT.out]; exact HO.out)
            have hg0 := blk_lt HBT.out
            have HGL := Lib.hid hg0
            have HSZ : Hid (wt.heap.size = w.heap.size) := Lib.hid (by rw [HWT.out]; rfl)
            clear hg0
            go_upto_region 7 with (at_builtin
                                   go_must (refine wpList_app1O Try.eltS rfl _ _ rfl wt 0 (some ⟨b3, o3, none⟩) n c3 us (by rfl) HXC.out (.slice none 0 0) rfl (by rfl) (by omega) ?_)
                                   intro B3 d3 w4 ho4 hc4 hf4
                                   have hb4 := blk_ch HBT.out hc4 HG3.out
                                   have y3 : w4.cell? ⟨g, 3, none⟩ = some (.slice (some ⟨b3, o3, none⟩) n c3) := blk_cell hb4 3 rfl
                                   have f3 : w4.frozen? ⟨g, 3, none⟩ = false := blk_free hb4 3)
            obtain ⟨b5, rfl⟩ : ∃ b5, B3 = some ⟨b5, 0, none⟩ := own_addr ho4 (Nat.succ_pos _)
            obtain ⟨w5, hw5⟩ : ∃ w5, w5 = w4.setCell ⟨g, 3, none⟩ (.slice (some ⟨b5, 0, none⟩) (n + 1) d3) := ⟨_, rfl⟩
            have hgb : ∀ q, Fo (.slice (some ⟨b5, 0, none⟩) (n + 1) d3) q → q ≠ g := fun q hq e => by subst e; rcases hf4 q hq with h | h; exact HG3.out h; have := HGL.out; omega
            have HB5 : Hid (SBx w5 g z V1 V2 (some ⟨b5, 0, none⟩) d3 (some ⟨b4, o4, none⟩) c4 n ∨ True) := Lib.hid (.inr trivial)
            have HBB5 : Hid (w5.heap[g]? = some (.cells #[.int .i64 z, V1, V2, .slice (some ⟨b5, 0, none⟩) (n + 1) d3, .slice (some ⟨b4, o4, none⟩) n c4] 117 (0, 0))) := Lib.hid (by rw [hw5]; have h := blk_set hb4 3 (.slice (some ⟨b5, 0, none⟩) (n + 1) d3); simpa using h)
            have HO35 : Hid (w5.ownsRow 0 25 1 (.slice (some ⟨b5, 0, none⟩) (n + 1) d3) (n + 1) (insAt us n (.slice none 0 0))) := Lib.hid (by rw [hw5, ← ins_end HUL.out]; exact own_ch ho4 (ch_set w4 g 3 _) (fun q a b => hgb q a b))
            have HO45 : Hid (w5.ownsRow 0 2 1 (.slice (some ⟨b4, o4, none⟩) n c4) n (ints sts)) := Lib.hid (by rw [hw5]; exact own_ch (own_ch HOC.out hc4 (fun q a b => by obtain ⟨ds, h1⟩ := own_fo HOC.out a; obtain ⟨es, h2⟩ := own_fo HXC.out b; exact blk_ne h1 h2 (by decide) rfl)) (ch_set w4 g 3 _) (fun q a b => HG4.out (b ▸ a)))
            have HC5 : Hid (Ch (fun k => k = g ∨ Fo (.slice (some ⟨b3, o3, none⟩) n c3) k ∨ Fo (.slice (some ⟨b4, o4, none⟩) n c4) k) w w5) := Lib.hid (by
              have h1 : Ch (fun k => k = g ∨ Fo (.slice (some ⟨b3, o3, none⟩) n c3) k ∨ Fo (.slice (some ⟨b4, o4, none⟩) n c4) k) w wt := by rw [HWT.out]; exact ch_drewN (Ch.refl _ _)
              rw [hw5]
              exact (h1.trans (hc4.mono (fun k hk => .inr (.inl hk)))).trans ((ch_set w4 g 3 _).mono (fun k hk => .inl hk)))
            have HF5 : Hid (∀ q, Fo (.slice (some ⟨b5, 0, none⟩) (n + 1) d3) q → Fo (.slice (some ⟨b3, o3, none⟩) n c3) q ∨ w.heap.size ≤ q) := Lib.hid (fun q hq => (hf4 q hq).imp id (fun h => by have := HSZ.out; omega))
            have HG5 : Hid (∀ q, Fo (.slice (some ⟨b5, 0, none⟩) (n + 1) d3) q → q ≠ g) := Lib.hid hgb
            rw [← hw5]
            clear hw5 hgb hf4 hc4 ho4 hb4 y3 f3 x3 x4
            have x4 : w5.cell? ⟨g, 4, none⟩ = some (.slice (some ⟨b4, o4, none⟩) n c4) := blk_cell HBB5.out 4 rfl
            go_upto_region 8 with (at_builtin
                                   go_must (refine wpList_app1O Try.eltI rfl _ _ rfl w5 0 (some ⟨b4, o4, none⟩) n c4 (ints sts) (by rfl) HO45.out (.int .i64 0) rfl (by rfl) (by omega) ?_)
                                   intro B4 d4 w6 ho6 hc6 hf6
                                   have hb6 := blk_ch HBB5.out hc6 HG4.out
                                   have y4 : w6.cell? ⟨g, 4, none⟩ = some (.slice (some ⟨b4, o4, none⟩) n c4) := blk_cell hb6 4 rfl
                                   have f4 : w6.frozen? ⟨g, 4, none⟩ = false := blk_free hb6 4)
            obtain ⟨b6, rfl⟩ : ∃ b6, B4 = some ⟨b6, 0, none⟩ := own_addr ho6 (Nat.succ_pos _)
            obtain ⟨w7, hw7⟩ : ∃ w7, w7 = w6.setCell ⟨g, 4, none⟩ (.slice (some ⟨b6, 0, none⟩) (n + 1) d4) := ⟨_, rfl⟩
            have hg5 := blk_lt HBB5.out
            have hgb : ∀ q, Fo (.slice (some ⟨b6, 0, none⟩) (n + 1) d4) q → q ≠ g := fun q hq e => by subst e; rcases hf6 q hq with h | h; exact HG4.out h; omega
            have HBB7 : Hid (SBx w7 g z V1 V2 (some ⟨b5, 0, none⟩) d3 (some ⟨b6, 0, none⟩) d4 (n + 1)) := Lib.hid (by rw [hw7]; have h := blk_set hb6 4 (.slice (some ⟨b6, 0, none⟩) (n + 1) d4); simpa using h)
            have HO37 : Hid (w7.ownsRow 0 25 1 (.slice (some ⟨b5, 0, none⟩) (n + 1) d3) (n + 1) (insAt us n (.slice none 0 0))) := Lib.hid (by rw [hw7]; exact own_ch (own_ch HO35.out hc6 (fun q a b => by obtain ⟨ds, h1⟩ := own_fo HO35.out a; obtain ⟨es, h2⟩ := own_fo HO45.out b; exact blk_ne h1 h2 (by decide) rfl)) (ch_set w6 g 4 _) (fun q a b => HG5.out q a b))
            have HO47 : Hid (w7.ownsRow 0 2 1 (.slice (some ⟨b6, 0, none⟩) (n + 1) d4) (n + 1) (insAt (ints sts) n (.int .i64 0))) := Lib.hid (by rw [hw7, ← ins_end (us := ints sts) (by simpa using HSL.out)]; exact own_ch ho6 (ch_set w6 g 4 _) (fun q a b => hgb q a b))
            have HC7 : Hid (Ch (fun k => k = g ∨ Fo (.slice (some ⟨b3, o3, none⟩) n c3) k ∨ Fo (.slice (some ⟨b4, o4, none⟩) n c4) k) w w7) := Lib.hid (by rw [hw7]; exact (HC5.out.trans (hc6.mono (fun k hk => .inr (.inr hk)))).trans ((ch_set w6 g 4 _).mono (fun k hk => .inl hk)))
            have HF7 : Hid (∀ q, Fo (.slice (some ⟨b6, 0, none⟩) (n + 1) d4) q → Fo (.slice (some ⟨b4, o4, none⟩) n c4) q ∨ w.heap.size ≤ q) := Lib.hid (fun q hq => (hf6 q hq).imp id (fun h => Nat.le_trans HC5.out.size h))
            have HB56 : Hid (b5 ≠ g ∧ b6 ≠ g ∧ b5 ≠ b6) := Lib.hid ⟨HG5.out b5 rfl, hgb b6 rfl, fun e => by obtain ⟨ds, h1⟩ := own_fo HO37.out (k := b5) rfl; obtain ⟨es, h2⟩ := own_fo HO47.out (k := b6) rfl; exact blk_ne h1 h2 (by decide) e⟩
            rw [← hw7]
            clear hw7 hgb hf6 hc6 ho6 hb6 y4 f4 x4 hg5
            have y3 : w7.cell? ⟨g, 3, none⟩ = some (.slice (some ⟨b5, 0, none⟩) (n + 1) d3) := blk_cell HBB7.out 3 rfl
            have hen : IntKind.i64.wrap ((n : Int) + 1 - 1) = (n : Int) := by rw [IntWalk.i64_in _ (by omega)]; omega
            as_aux_lemma =>
            go_wp2_with fail
            clear y3 hen
            go_loopw [8] (fun q wx => ∃ (k : Nat) (v3 v4 : Value), q = .int .i64 k ∧ p ≤ k ∧ k ≤ n ∧ Hid (wx.ownsRow 0 25 1 (.slice (some ⟨b5, 0, none⟩) (n + 1) d3) (n + 1) (insAt us k v3)) ∧ Hid (wx.ownsRow 0 2 1 (.slice (some ⟨b6, 0, none⟩) (n + 1) d4) (n + 1) (insAt (ints sts) k v4)) ∧ Hid (SBx wx g z V1 V2 (some ⟨b5, 0, none⟩) d3 (some ⟨b6, 0, none⟩) d4 (n + 1)) ∧ Hid (Ch (fun k => k = g ∨ Fo (.slice (some ⟨b3, o3, none⟩) n c3) k ∨ Fo (.slice (some ⟨b4, o4, none⟩) n c4) k) w wx)) (fun q _ => (intOf q).toNat)
            case atStart => exact ⟨n, _, _, rfl, by omega, Nat.le_refl _, HO37, HO47, HBB7, HC7⟩
            case round =>
              as_aux_lemma =>
              obtain ⟨k, v3, v4, rfl, hpk, hkn, HO3, HO4, HBR, HCR⟩ := hrel
              have hi1 : (k : Int) < (n : Int) + 1 := by omega
              have hi2 : k < n + 1 := by omega
              obtain ⟨⟨vz3, hz3⟩, hfr3⟩ := own_cell0 HO3.out (j := k) (by omega)
              obtain ⟨⟨vz4, hz4⟩, hfr4⟩ := own_cell0 HO4.out (j := k) (by omega)
              have y3 : wr.cell? ⟨g, 3, none⟩ = some (.slice (some ⟨b5, 0, none⟩) (n + 1) d3) := blk_cell HBR.out 3 rfl
              have y4 : wr.cell? ⟨g, 4, none⟩ = some (.slice (some ⟨b6, 0, none⟩) (n + 1) d4) := blk_cell HBR.out 4 rfl
              by_cases hlt : p < k
              · have hlt' : ((p : Nat) : Int) < (k : Int) := by omega
                obtain ⟨u, hu⟩ := get_some (xs := us) (k := k - 1) (by rw [HUL.out]; omega)
                obtain ⟨s1, hs1⟩ := get_some (xs := sts) (k := k - 1) (by rw [HSL.out]; omega)
                have HU := Lib.hid hu; have HS1 := Lib.hid hs1
                have h3i : (insAt us k v3)[k - 1]? = some u := by rw [ins_get (by omega) (by rw [HUL.out]; omega)]; exact hu
                have h4i : (insAt (ints sts) k v4)[k - 1]? = some (.int .i64 s1) := by rw [ins_get (by omega) (by have := HSL.out; simp; omega)]; exact ints_get hs1
                obtain ⟨bx, ox, e1, hbx, q3⟩ := (own_rd HO3.out).at_ h3i
                injection e1 with e1
                injection e1 with e1 e2
                subst e1 e2
                obtain ⟨bx, ox, e1, hbx2, q4⟩ := (own_rd HO4.out).at_ h4i
                injection e1 with e1
                injection e1 with e1 e2
                subst e1 e2
                rw [Nat.zero_add] at q3 q4
                have HOX : Hid (∃ A7 n7 c7, u = .slice A7 n7 c7) := Lib.hid (by
                  obtain ⟨y7, hy7⟩ := get_some (xs := cs) (k := k - 1) (by rw [HCL.out]; omega)
                  obtain ⟨A7, n7, c7, e7, _⟩ := HX.out.2.2.1 (k - 1) u y7 hu hy7
                  exact ⟨A7, n7, c7, e7⟩)
                obtain ⟨A7, n7, c7, rfl⟩ := HOX.out
                have hw1 : IntKind.i64.wrap ((k : Int) - 1) = ((k - 1 : Nat) : Int) := by rw [IntWalk.i64_in _ (by omega)]; omega
                have hj1 : k - 1 < n + 1 := by omega
                have hj2 : ((k - 1 : Nat) : Int) < (n : Int) + 1 := by omega
                have hkk : k - 1 ≠ k := by omega
                obtain ⟨k1, hk1⟩ : ∃ k1, k1 = k - 1 := ⟨_, rfl⟩
                rw [← hk1] at hw1 hj1 hj2 q3 q4 hkk
                have HK1 := Lib.hid hk1
                obtain ⟨hg5, hg6, h56⟩ := HB56.out
                have hg5' : g ≠ b5 := fun e => hg5 e.symm
                have hg6' : g ≠ b6 := fun e => hg6 e.symm
                have h56' : b6 ≠ b5 := fun e => h56 e.symm
                clear hu hs1 h3i h4i hk1 hbx hbx2
                go_wp2_with fail
                (first | (go_region_held3 (fun w' => w'.cell? ⟨g, 3, none⟩ = some (.slice (some ⟨b5, 0, none⟩) (n + 1) d3) ∧ w'.cell? ⟨b5, k1, none⟩ = some (.slice A7 n7 c7)) (first | exact ⟨by assumption, by assumption⟩ | exact ⟨cell_far (by assumption) hg5', cell_off (by assumption) hkk⟩ | go_keep) (fail)) | fail)
                all_goals
                  as_aux_lemma =>
                  obtain ⟨w8, hw8⟩ : ∃ w8, w8 = (wr.setCell ⟨b5, k, none⟩ (.slice A7 n7 c7)).drew := ⟨_, rfl⟩
                  have z4 : w8.cell? ⟨g, 4, none⟩ = some (.slice (some ⟨b6, 0, none⟩) (n + 1) d4) := by rw [hw8]; exact (cell_far y4 hg5' : (wr.setCell ⟨b5, k, none⟩ (.slice A7 n7 c7)).cell? _ = _)
                  have z4b : w8.cell? ⟨b6, k1, none⟩ = some (.int .i64 s1) := by rw [hw8]; exact (cell_far q4 h56' : (wr.setCell ⟨b5, k, none⟩ (.slice A7 n7 c7)).cell? _ = _)
                  have z4c : w8.cell? ⟨b6, k, none⟩ = some vz4 := by rw [hw8]; exact (cell_far hz4 h56' : (wr.setCell ⟨b5, k, none⟩ (.slice A7 n7 c7)).cell? _ = _)
                  have z4f : w8.frozen? ⟨b6, k, none⟩ = false := by rw [hw8]; exact (by rw [World.frozen?_setCell]; exact hfr4 : (wr.setCell ⟨b5, k, none⟩ (.slice A7 n7 c7)).frozen? _ = false)
                  have H38 : Hid (w8.ownsRow 0 25 1 (.slice (some ⟨b5, 0, none⟩) (n + 1) d3) (n + 1) (insAt us k1 (.slice A7 n7 c7))) := Lib.hid (by
                    rw [hw8, HK1.out]
                    have h2 := own_put HO3.out k (.slice A7 n7 c7)
                    rw [ins_set (by omega) (by rw [HUL.out]; omega) HU.out] at h2
                    exact h2)
                  have H48 : Hid (w8.ownsRow 0 2 1 (.slice (some ⟨b6, 0, none⟩) (n + 1) d4) (n + 1) (insAt (ints sts) k v4)) := Lib.hid (by
                    rw [hw8]
                    exact own_ch HO4.out (ch_drewN (n := 1) (ch_set wr b5 k _)) (fo_ne h56'))
                  have HB8 : Hid (SBx w8 g z V1 V2 (some ⟨b5, 0, none⟩) d3 (some ⟨b6, 0, none⟩) d4 (n + 1)) := Lib.hid (by
                    rw [hw8]
                    exact blk_ch HBR.out (ch_drewN (n := 1) (ch_set wr b5 k _)) hg5')
                  have HC8 : Hid (Ch (fun k => k = g ∨ Fo (.slice (some ⟨b3, o3, none⟩) n c3) k ∨ Fo (.slice (some ⟨b4, o4, none⟩) n c4) k) w w8) := Lib.hid (by
                    rw [hw8]
                    exact ch_drewN (n := 1) (ch_set_in HCR.out ((HF5.out b5 rfl).imp (fun h => .inr (.inl h)) id)))
                  rw [← hw8]
                  clear hw8 y3 y4 q3 q4 hz3 hz4 hfr3 hfr4
                  go_wp2_with fail
                  (first | (go_region_held3 (fun w' => w'.cell? ⟨g, 4, none⟩ = some (.slice (some ⟨b6, 0, none⟩) (n + 1) d4) ∧ w'.cell? ⟨b6, k1, none⟩ = some (.int .i64 s1)) (first | exact ⟨by assumption, by assumption⟩ | exact ⟨cell_far (by assumption) hg6', cell_off (by assumption) hkk⟩ | go_keep) (fail)) | fail)
                  all_goals
                    as_aux_lemma =>
                    obtain ⟨w9, hw9⟩ : ∃ w9, w9 = (w8.setCell ⟨b6, k, none⟩ (.int .i64 s1)).drew := ⟨_, rfl⟩
                    have H39 : Hid (w9.ownsRow 0 25 1 (.slice (some ⟨b5, 0, none⟩) (n + 1) d3) (n + 1) (insAt us k1 (.slice A7 n7 c7))) := Lib.hid (by
                      rw [hw9]
                      exact own_ch H38.out (ch_drewN (n := 1) (ch_set w8 b6 k _)) (fo_ne h56))
                    have H49 : Hid (w9.ownsRow 0 2 1 (.slice (some ⟨b6, 0, none⟩) (n + 1) d4) (n + 1) (insAt (ints sts) k1 (.int .i64 s1))) := Lib.hid (by
                      rw [hw9, HK1.out]
                      have h2 := own_put H48.out k (.int .i64 s1)
                      rw [ins_set (by omega) (by have := HSL.out; simp; omega) (ints_get HS1.out)] at h2
                      exact h2)
                    have HB9 : Hid (SBx w9 g z V1 V2 (some ⟨b5, 0, none⟩) d3 (some ⟨b6, 0, none⟩) d4 (n + 1)) := Lib.hid (by
                      rw [hw9]
                      exact blk_ch HB8.out (ch_drewN (n := 1) (ch_set w8 b6 k _)) hg6')
                    have HC9 : Hid (Ch (fun k => k = g ∨ Fo (.slice (some ⟨b3, o3, none⟩) n c3) k ∨ Fo (.slice (some ⟨b4, o4, none⟩) n c4) k) w w9) := Lib.hid (by
                      rw [hw9]
                      exact ch_drewN (n := 1) (ch_set_in HC8.out ((HF7.out b6 rfl).imp (fun h => .inr (.inr h)) id)))
                    rw [← hw9]
                    clear hw9 z4 z4b z4c z4f
                    go_wp2_with fail
                    go_roundw
                    case rel => exact ⟨k1, .slice A7 n7 c7, .int .i64 s1, rfl, (by have := HK1.out; omega), (by have := HK1.out; omega), H39, H49, HB9, HC9⟩
                    case measure => have := HK1.out; simp only [intOf]; omega
              · obtain rfl : p = k := by omega
                have hlt' : ¬ ((p : Nat) : Int) < ((p : Nat) : Int) := by omega
                obtain ⟨hg5, hg6, h56⟩ := HB56.out
                have hg5' : g ≠ b5 := fun e => hg5 e.symm
                have h56' : b6 ≠ b5 := fun e => h56 e.symm
                go_upto_region 14 with fail
                as_aux_lemma =>
                obtain ⟨w8, hw8⟩ : ∃ w8, w8 = wr.setCell ⟨b5, p, none⟩ (.slice A2 n2 c2) := ⟨_, rfl⟩
                have z4 : w8.cell? ⟨g, 4, none⟩ = some (.slice (some ⟨b6, 0, none⟩) (n + 1) d4) := by rw [hw8]; exact cell_far y4 hg5'
                have z4c : w8.cell? ⟨b6, p, none⟩ = some vz4 := by rw [hw8]; exact cell_far hz4 h56'
                have z4f : w8.frozen? ⟨b6, p, none⟩ = false := by rw [hw8, World.frozen?_setCell]; exact hfr4
                have HW8 := Lib.hid hw8
                rw [← hw8]
                clear hw8 y3 y4 hz3 hz4 hfr3 hfr4
                go_wp2_with fail
                go_ret
                refine .inr ⟨HNI.out, some ⟨b5, 0, none⟩, d3, some ⟨b6, 0, none⟩, d4, p, rfl, hpn, HPL.out, ?_, ?_, ?_, ?_, HF5.out, HF7.out⟩
                · refine blk_ch ?_ (ch_set w8 b6 p _) (fun e => hg6 e.symm)
                  rw [HW8.out]
                  exact blk_ch HBR.out (ch_set wr b5 p _) hg5'
                · refine own_ch ?_ (ch_set w8 b6 p _) (fo_ne h56)
                  rw [HW8.out]
                  have h := own_put HO3.out p (.slice A2 n2 c2)
                  rw [ins_put (by rw [HUL.out]; omega)] at h
                  exact h
                · have h4 : w8.ownsRow 0 2 1 (.slice (some ⟨b6, 0, none⟩) (n + 1) d4) (n + 1) (insAt (ints sts) p v4) := by
                    rw [HW8.out]
                    exact own_ch HO4.out (ch_set wr b5 p _) (fo_ne h56')
                  have h := own_put h4 p (.int .i64 st)
                  rw [ins_put (by have := HSL.out; simp only [List.length_map]; omega), ← ints_ins] at h
                  exact h
                · refine ch_set_in ?_ ((HF7.out b6 rfl).imp (fun h => .inr (.inr h)) id)
                  rw [HW8.out]
                  exact ch_set_in HCR.out ((HF5.out b5 rfl).imp (fun h => .inr (.inl h)) id)
      · subst heq
        have HIN : Hid ((st :: y) ∈ stated sts cs) := Lib.hid (by rw [← cmpL_zero.1 HOE.out.symm]; exact List.mem_of_getElem? HZK.out)
        go_wp2_with fail
        (first | (go_quiet ((go_at_call 122; with_reducible exact HORM.out _))) | fail)
        all_goals
          as_aux_lemma =>
          obtain ⟨wn, hwn⟩ : ∃ wn, wn = wm.drewN nq := ⟨_, rfl⟩
          rw [← hwn]
          obtain ⟨j1, hj1⟩ : ∃ j, wn = w.drewN j := ⟨m + nq, by rw [hwn, HWM.out, World.drewN_drewN]⟩
          have HWN := Lib.hid hj1
          clear hj1
          have HBN : Hid (SBx wn g z V1 V2 (some ⟨b3, o3, none⟩) c3 (some ⟨b4, o4, none⟩) c4 n) := Lib.hid (by rw [hwn]; exact HBM.out)
          have HORN := Lib.hid (fun k => Calls.quiet_of (HORD.out wn ⟨j1, HWN.out⟩ k))
          clear x3 x4 q3 q4
          have x3 : wn.cell? ⟨g, 3, none⟩ = some (.slice (some ⟨b3, o3, none⟩) n c3) := blk_cell HBN.out 3 rfl
          have x4 : wn.cell? ⟨g, 4, none⟩ = some (.slice (some ⟨b4, o4, none⟩) n c4) := blk_cell HBN.out 4 rfl
          have q3 : wn.cell? ⟨b3, o3 + p1, none⟩ = some (.slice A5 n5 c5) := by rw [hwn]; exact HQ3.out
          have q4 : wn.cell? ⟨b4, o4 + p1, none⟩ = some (.int .i64 sk) := by rw [hwn]; exact HQ4.out
          clear hwn
          go_wp2_with fail
          (first | (go_quiet ((go_at_call 122; with_reducible exact HORN.out _))) | fail)
          all_goals
            go_wp2_with fail
            go_ret
            exact .inl ⟨HIN.out, rfl, j1 + nq, by rw [HWN.out, World.drewN_drewN]⟩
      · have hgd : decide ((0 : Int) < o) = true := decide_eq_true hgt
        have HGT := Lib.hid hgt
        go_wp2_with fail
        (first | (go_quiet ((go_at_call 122; with_reducible exact HORM.out _))) | fail)
        all_goals
          as_aux_lemma =>
          go_wp2_with fail
          go_roundw
          case rel =>
            refine ⟨p1, rfl, Lib.hid ⟨by omega, fun j x h1 h2 => ?_⟩, m + nq, by rw [HWM.out, World.drewN_drewN]⟩
            have hp1 := HP1.out
            rcases Nat.lt_or_ge j p with h3 | h3
            · obtain rfl : j = p - 1 := by omega
              rw [HZK.out] at h1; injection h1 with h1; subst h1; rw [← HOE.out]; exact HGT.out
            · exact HS.out.2 j x h1 h3
          case measure => have := HP1.out; have := HP0.out; simp [intOf]; omega
end Go.Proofs.Ytcpkhhammafchaa
