/- The universal program: the text of commands (reference): l22Text. Printed by mk_uvx.py. -/
import Derived.Test.YtadmbphefpfbmaaGreatDoorUvF
import Derived.Test.YtadmbphefpfbmaaGreatDoorPqL
import Derived.Deep.RegionHeld3
import Derived.Deep.DrawnRows
namespace Go.Proofs.YtadmbphefpfbmaaGreatDoor
open Go.RowKit
set_option linter.unusedVariables false
set_option linter.unusedSimpArgs false
attribute [local go_sem ↓] Go.wp_at_zero Go.wp_at_succ
theorem run_cutLH (w : World) (b off len cap l h : Nat) (x y : Int) (hx : x = (l : Int)) (hy : y = (h : Int)) (h1 : l ≤ h) (h2 : h ≤ cap) (h3 : l < cap) :
    (Instr.slice 28 (.slice (some ⟨b, off, none⟩) len cap) (some (.int .i64 x)) (some (.int .i64 y)) none).run Tryz.prog w = .ok (.slice (some ⟨b, off + l * 4, none⟩) (h - l) (cap - l)) w := by
  subst hx; subst hy
  have ee : Tryz.prog.elem 28 = 44 := by simp [Program.elem, Tryz.underlying28]
  rw [run_slice_lh (P := Tryz.prog) w 28 _ len cap (by rw [ee]; exact Tryz.underlying28) .i64 .i64 (l : Int) (h : Int) (by omega) (by omega) (by omega), ee, run_size (sz := 4) (by kernel_rfl) w]
  simp only [Result.andThen, sliced, Option.map_some, Int.toNat_natCast, add_plain']
  rw [if_neg (by omega)]
/-- No body is empty. -/
def Pg.nb : Pg → Prop
  | .nil => True
  | .set _ _ r => r.nb
  | .loop _ b r => 1 ≤ b.sz ∧ b.nb ∧ r.nb
/-- What the loop keeps: o is written, q is left. -/
def TxI (p : Pg) (o : ByteArray) (q : Pg) (i : Nat) : Prop := (i = 0 ∧ o = ⟨#[]⟩ ∧ q = p) ∨ (0 < i ∧ nm o ++ q.tl = p.tx)
theorem txi_size {p q : Pg} {o : ByteArray} {i : Nat} (h : TxI p o q i) : o.size ≤ p.tx.length := by
  rcases h with ⟨_, rfl, _⟩ | ⟨_, h⟩
  · simp [ByteArray.size]
  · rw [← h, List.length_append, nm_size]; omega
def TxCon (p : Pg) : Prop := ∀ (w : World) (A : Option Addr) (n c : Nat), RdC w A n p.cmds → n ≤ c → Calls Tryz.prog 102 #[.slice A n c] w (fun e w' => ∃ s, e = .returned (.string s) ∧ nm s = p.tx ∧ Below w.heap.size w w')
set_option maxHeartbeats 16000000 in
set_option maxRecDepth 100000 in
theorem l22TextY_step (p : Pg) (hok : p.ok) (hnb : p.nb) (htx : p.tx.length ≤ 50000) (hsz : p.sz ≤ 1000) (ih : ∀ b : Pg, b.sz < p.sz → b.ok → b.nb → b.tx.length ≤ 50000 → TxCon b) : TxCon p := by
  intro w A n c hr hc
  have HR := Lib.hid hr
  have HIH := Lib.hid ih
  have HL : Hid (p.cmds.length = n) := Lib.hid hr.len
  have HTX : Hid (p.tx.length ≤ 50000 ∧ n ≤ 1000 ∧ n ≤ c) := Lib.hid ⟨htx, by rw [← hr.len, Pg.cmds_len]; exact hsz, hc⟩
  have HOK := Lib.hid hok; have HNB := Lib.hid hnb
  clear hr hc ih hok hnb htx hsz
  go_enter Tryz.func102, Tryz.ntmps102
  go_wp2_with fail
  go_loopw [3, 4] (fun u v wr => ∃ (i : Nat) (o : ByteArray) (q : Pg), i ≤ n ∧ u = .string o ∧ v = .int .i64 (i : Int) ∧ Hid (q.cmds = p.cmds.drop i) ∧ Hid (q.ok ∧ q.nb ∧ q.sz ≤ p.sz) ∧ Hid (TxI p o q i) ∧ Hid (Below w.heap.size w wr)) (fun _ v _ => n - (intOf v).toNat)
  case atStart => exact ⟨0, ⟨#[]⟩, p, Nat.zero_le _, rfl, rfl, Lib.hid rfl, Lib.hid ⟨HOK.out, HNB.out, Nat.le_refl _⟩, Lib.hid (.inl ⟨rfl, rfl, rfl⟩), Lib.hid (Below.refl _ _)⟩
  case round =>
    obtain ⟨i, o, q, hi, rfl, rfl, HC, HQ, HT, HB⟩ := hrel
    have hn9 : n ≤ 1000 := HTX.out.2.1
    have ho9 : o.size ≤ 50000 := by have := txi_size HT.out; have := HTX.out; omega
    cases q with
    | nil =>
      have hin : i = n := by
        have h := congrArg List.length HC.out
        simp only [Pg.cmds, List.length_nil, List.length_drop, HL.out] at h
        omega
      have hnl : ¬ (i : Int) < (n : Int) := by omega
      have HE : Hid (nm o = p.tx) := Lib.hid (by
        rcases HT.out with ⟨_, rfl, hq⟩ | ⟨_, h⟩
        · rw [← hq]; rfl
        · rw [← h]; simp [Pg.tl])
      clear hin
      go_wp2_with fail
      go_ret
      first | exact ⟨o, rfl, HE.out, HB.out⟩ | exact ⟨o, ⟨rfl, HE.out, HB.out⟩⟩
    | set d x r =>
      have HD : Hid (d ≤ 5 ∧ x.ok ∧ x.els.length ≤ 40 ∧ x.els.length ≤ 2000) := Lib.hid ⟨HQ.out.1.1, HQ.out.1.2.1, HQ.out.1.2.2.1, by have := HQ.out.1.2.2.1; omega⟩
      have hci : p.cmds[i]? = some ⟨0, (d : Int), 0, x.els⟩ := by
        have h := HC.out
        have h2 : (p.cmds.drop i)[0]? = some ⟨0, (d : Int), 0, x.els⟩ := by rw [← h]; rfl
        rw [List.getElem?_drop] at h2; exact h2
      have HC2 : Hid (r.cmds = p.cmds.drop (i + 1)) := Lib.hid (by
        have h := HC.out
        rw [← List.drop_drop, ← h]; rfl)
      have HQ2 : Hid (r.ok ∧ r.nb ∧ r.sz ≤ p.sz) := Lib.hid ⟨HQ.out.1.2.2.2, HQ.out.2.1, by have := HQ.out.2.2; simp only [Pg.sz] at this; omega⟩
      have hlt : i < n := by have h := (List.getElem?_eq_some_iff.1 hci).1; rw [HL.out] at h; exact h
      have hii : (i : Int) < (n : Int) := by omega
      have hi00 : (0 : Int) ≤ (i : Int) := by omega
      obtain ⟨b, off, A', n', c', hA, hbs, q0, q1, q2, q3, hn', hc', hre⟩ := HR.out.at_ hci
      subst hA
      have hne : x.els.length = n' := rdE_len hre
      have HRE : Hid (∀ wx, Below w.heap.size w wx → RdE wx A' n' x.els) := Lib.hid (fun wx hbx => hre.below hbx (Nat.le_refl _))
      have HQW : Hid (∀ wx, Below w.heap.size w wx → wx.cell? ⟨b, off + i * 4 + 1, none⟩ = some (.int .i64 (d : Int)) ∧ wx.cell? ⟨b, off + i * 4 + 3, none⟩ = some (.slice A' n' c')) := Lib.hid (fun wx hbx => ⟨(hbx.cell (p := ⟨b, off + i * 4 + 1, none⟩) hbs).trans q1, (hbx.cell (p := ⟨b, off + i * 4 + 3, none⟩) hbs).trans q3⟩)
      rw [hne] at HD
      have hz1 : x.bs.size ≤ 10000 := by have h1 := x.bs_size; have := HD.out; omega
      have hz2 : (decB d).size = 1 := rfl
      have hz3 : (decB d ++ ⟨#[61]⟩).size = 2 := rfl
      have hf1 : (9223372036854775807 < 2 + x.bs.size) = False := eq_false (by omega)
      have hf2 : (9223372036854775807 < 1 + 1 + x.bs.size) = False := eq_false (by omega)
      have hf3 : (9223372036854775807 < o.size + (2 + x.bs.size)) = False := eq_false (by omega)
      have hf4 : (9223372036854775807 < o.size + (1 + 1 + x.bs.size)) = False := eq_false (by omega)
      have hf5 : (9223372036854775807 < o.size + 1 + (2 + x.bs.size)) = False := eq_false (by omega)
      have hf6 : (9223372036854775807 < o.size + 1 + (1 + 1 + x.bs.size)) = False := eq_false (by omega)
      replace q0 := (HB.out.cell (p := ⟨b, off + i * 4, none⟩) hbs).trans q0
      clear q1 q2 q3 hn' hc' hre hne hci hi HQ HC
      by_cases hi0 : i = 0
      · as_aux_lemma =>
          have hip : ¬ (0 : Int) < (i : Int) := by omega
          have HN : Hid (nm o ++ (Pg.set d x r).tx = p.tx) := Lib.hid (by
            rcases HT.out with ⟨_, rfl, hq⟩ | ⟨h, _⟩
            · rw [← hq]; simp [nm]
            · omega)
          have HT2 : Hid (TxI p (o ++ ((decB d ++ ⟨#[61]⟩) ++ x.bs)) r (i + 1)) := Lib.hid (.inr ⟨by omega, by
            have h := HN.out
            rw [← h]
            simp only [nm_app, nm_dec HD.out.1, Ex.nm_bs HD.out.2.1, Pg.tx, Pg.tl]
            simp [nm]⟩)
          clear hi0
          go_upto_region 8 with fail
          clear q0 HT HN hip
          as_aux_lemma =>
          go_wp2_with fail
          (first | (go_region_held3 (fun w' => w'.cell? ⟨b, off + i * 4 + 1, none⟩ = some (.int .i64 (d : Int)) ∧ w'.cell? ⟨b, off + i * 4 + 3, none⟩ = some (.slice A' n' c')) (first | exact HQW.out _ HB.out | exact HQW.out _ (below_drew1 HB.out) | exact HQW.out _ HB2.out | exact HQW.out _ (below_drew1 HB2.out) | exact HQW.out _ HB3.out) (first
            | (go_at_call 99
               refine (l22ShowY_any x HD.out.2.1 _ A' n' c' (HRE.out _ (by first | exact HB2.out | exact below_drew1 HB2.out | exact HB.out | exact below_drew1 HB.out)) HD.out.2.2.2).mono ?_
               rintro e w3 ⟨rfl, hb3⟩
               (try replace hb3 := und1 hb3)
               have HB3 : Hid (Below w.heap.size w w3) := Lib.hid (by first | exact bqcP hb3 HB2.out | exact bqcP hb3 HB.out)
               clear hb3)
            | (go_at_call 142
               refine (l01DecV_any _ d HD.out.1).mono ?_
               rintro e w2 ⟨rfl, hb2⟩
               (try replace hb2 := und1 hb2)
               have HB2 : Hid (Below w.heap.size w w2) := Lib.hid (by first | exact bqcP hb2 HB.out | exact bqcP hb2 HB3.out)
               clear hb2))) | fail)
          all_goals
            go_wp2_with fail
            go_roundw
            case rel => exact ⟨i + 1, _, r, by omega, rfl, by go_num, HC2, HQ2, HT2, by first | exact HB3 | exact HB2⟩
            case measure => simp [intOf]; omega
      · as_aux_lemma =>
          have hip : (0 : Int) < (i : Int) := by omega
          have HN : Hid (nm (o ++ ⟨#[59]⟩) ++ (Pg.set d x r).tx = p.tx) := Lib.hid (by
            rcases HT.out with ⟨h1, _⟩ | ⟨_, h⟩
            · omega
            · rw [nm_app, ← h]; simp [Pg.tl, Pg.tx, nm])
          have HT2 : Hid (TxI p ((o ++ ⟨#[59]⟩) ++ ((decB d ++ ⟨#[61]⟩) ++ x.bs)) r (i + 1)) := Lib.hid (.inr ⟨by omega, by
            have h := HN.out
            rw [← h]
            simp only [nm_app, nm_dec HD.out.1, Ex.nm_bs HD.out.2.1, Pg.tx, Pg.tl]
            simp [nm]⟩)
          clear hi0
          go_upto_region 8 with fail
          clear q0 HT HN hip
          as_aux_lemma =>
          go_wp2_with fail
          (first | (go_region_held3 (fun w' => w'.cell? ⟨b, off + i * 4 + 1, none⟩ = some (.int .i64 (d : Int)) ∧ w'.cell? ⟨b, off + i * 4 + 3, none⟩ = some (.slice A' n' c')) (first | exact HQW.out _ HB.out | exact HQW.out _ (below_drew1 HB.out) | exact HQW.out _ HB2.out | exact HQW.out _ (below_drew1 HB2.out) | exact HQW.out _ HB3.out) (first
            | (go_at_call 99
               refine (l22ShowY_any x HD.out.2.1 _ A' n' c' (HRE.out _ (by first | exact HB2.out | exact below_drew1 HB2.out | exact HB.out | exact below_drew1 HB.out)) HD.out.2.2.2).mono ?_
               rintro e w3 ⟨rfl, hb3⟩
               (try replace hb3 := und1 hb3)
               have HB3 : Hid (Below w.heap.size w w3) := Lib.hid (by first | exact bqcP hb3 HB2.out | exact bqcP hb3 HB.out)
               clear hb3)
            | (go_at_call 142
               refine (l01DecV_any _ d HD.out.1).mono ?_
               rintro e w2 ⟨rfl, hb2⟩
               (try replace hb2 := und1 hb2)
               have HB2 : Hid (Below w.heap.size w w2) := Lib.hid (by first | exact bqcP hb2 HB.out | exact bqcP hb2 HB3.out)
               clear hb2))) | fail)
          all_goals
            go_wp2_with fail
            go_roundw
            case rel => exact ⟨i + 1, _, r, by omega, rfl, by go_num, HC2, HQ2, HT2, by first | exact HB3 | exact HB2⟩
            case measure => simp [intOf]; omega
    | loop x bd r =>
      have hsb : bd.sz < p.sz := by have := HQ.out.2.2; simp only [Pg.sz] at this; omega
      obtain ⟨l, hl⟩ : ∃ l, l = bd.cmds.length := ⟨_, rfl⟩
      obtain ⟨en, hen⟩ : ∃ en, en = i + 1 + l := ⟨_, rfl⟩
      have hlb : 1 ≤ l := by rw [hl, Pg.cmds_len]; exact HQ.out.2.1.1
      have hci : p.cmds[i]? = some ⟨1, 0, (bd.cmds.length : Int), x.els⟩ := by
        have h := HC.out
        have h2 : (p.cmds.drop i)[0]? = some ⟨1, 0, (bd.cmds.length : Int), x.els⟩ := by rw [← h]; rfl
        rw [List.getElem?_drop] at h2; exact h2
      rw [← hl] at hci
      have hdr : p.cmds.drop (i + 1) = bd.cmds ++ r.cmds := by
        have h := HC.out
        rw [← List.drop_drop, ← h]; rfl
      have HC2 : Hid (r.cmds = p.cmds.drop en) := Lib.hid (by rw [hen, ← List.drop_drop, hdr, hl, List.drop_left])
      have henn : en ≤ n := by
        have h := congrArg List.length hdr
        simp only [List.length_drop, List.length_append, HL.out, ← hl] at h
        omega
      have HD : Hid (x.ok ∧ x.els.length ≤ 40 ∧ x.els.length ≤ 2000 ∧ bd.ok ∧ bd.sz < p.sz ∧ bd.nb ∧ x.bs.size ≤ 10000) := Lib.hid ⟨HQ.out.1.1, HQ.out.1.2.1, by have := HQ.out.1.2.1; omega, HQ.out.1.2.2.1, hsb, HQ.out.2.1.2.1, by have h1 := x.bs_size; have := HQ.out.1.2.1; omega⟩
      have HQ2 : Hid (r.ok ∧ r.nb ∧ r.sz ≤ p.sz) := Lib.hid ⟨HQ.out.1.2.2.2, HQ.out.2.1.2.2, by have := HQ.out.2.2; simp only [Pg.sz] at this; omega⟩
      have hii : (i : Int) < (n : Int) := by omega
      have hi00 : (0 : Int) ≤ (i : Int) := by omega
      obtain ⟨b, off, A', n', c', hA, hbs, q0, q1, q2, q3, hn', hc', hre⟩ := HR.out.at_ hci
      subst hA
      have hne : x.els.length = n' := rdE_len hre
      have HRE : Hid (∀ wx, Below w.heap.size w wx → RdE wx A' n' x.els) := Lib.hid (fun wx hbx => hre.below hbx (Nat.le_refl _))
      have HRB : Hid (∀ wx, Below w.heap.size w wx → RdC wx (some ⟨b, off + (i + 1) * 4, none⟩) (en - (i + 1)) bd.cmds) := Lib.hid (fun wx hbx => by
        have h := (HR.out.below hbx (Nat.le_refl _)).cut (i := i + 1) (j := en) (by omega) henn
        rw [hdr, show en - (i + 1) = bd.cmds.length by omega, List.take_left' rfl] at h
        rw [show en - (i + 1) = bd.cmds.length by omega]
        exact h)
      have HQW : Hid (∀ wx, Below w.heap.size w wx → wx.cell? ⟨b, off + i * 4 + 3, none⟩ = some (.slice A' n' c')) := Lib.hid (fun wx hbx => (hbx.cell (p := ⟨b, off + i * 4 + 3, none⟩) hbs).trans q3)
      have HNE : Hid (n' ≤ 2000) := Lib.hid (by have := HD.out; omega)
      have hz1 : x.bs.size ≤ 10000 := HD.out.2.2.2.2.2.2
      replace q0 := (HB.out.cell (p := ⟨b, off + i * 4, none⟩) hbs).trans q0
      replace q2 := (HB.out.cell (p := ⟨b, off + i * 4 + 2, none⟩) hbs).trans q2
      dsimp only at q0 q2
      clear q1 q3 hn' hc' hre hne hci hi HQ HC hdr hsb hl
      by_cases hi0 : i = 0
      · as_aux_lemma =>
          have hip : ¬ (0 : Int) < (i : Int) := by omega
          have HN : Hid (nm o ++ (Pg.loop x bd r).tx = p.tx) := Lib.hid (by
            rcases HT.out with ⟨_, rfl, hq⟩ | ⟨h, _⟩
            · rw [← hq]; simp [nm]
            · omega)
          have HT2 : Hid (∀ s : ByteArray, nm s = bd.tx → TxI p (o ++ ((((⟨#[119]⟩ ++ x.bs) ++ ⟨#[123]⟩) ++ s) ++ ⟨#[125]⟩)) r en) := Lib.hid (fun s hs => .inr ⟨by omega, by
            have h := HN.out
            rw [← h]
            simp only [nm_app, hs, Ex.nm_bs HD.out.1, Pg.tx, Pg.tl]
            simp [nm]⟩)
          have HBT : Hid (bd.tx.length ≤ 50000) := Lib.hid (by
            have h := congrArg List.length HN.out
            simp only [List.length_append, Pg.tx, Pg.tl, List.drop_succ_cons, List.drop_zero, List.length_cons] at h
            have := HTX.out.1
            simp only [Pg.tx] at this h ⊢
            omega)
          have HSB : Hid (∀ wx, Below w.heap.size w wx → Calls Tryz.prog 102 #[.slice (some ⟨b, off + (i + 1) * 4, none⟩) (en - (i + 1)) (c - (i + 1))] wx (fun e w' => ∃ s, e = .returned (.string s) ∧ nm s = bd.tx ∧ Below wx.heap.size wx w')) := Lib.hid (fun wx hbx => HIH.out bd HD.out.2.2.2.2.1 HD.out.2.2.2.1 HD.out.2.2.2.2.2.1 HBT.out wx _ _ _ (HRB.out wx hbx) (by have := HTX.out; omega))
          have hcut := fun wx : World => run_cutLH wx b off n c (i + 1) en ((i : Int) + 1) ((i : Int) + 1 + (l : Int)) (by omega) (by omega) (by omega) (by have := HTX.out; omega) (by have := HTX.out; omega)
          have hl9 : l ≤ 1000 := by omega
          have hwi : IntKind.i64.wrap ((i : Int) + 1) = (i : Int) + 1 := IntWalk.i64_in _ (by omega)
          have hg1 : (9223372036854775807 < 1 + x.bs.size) = False := eq_false (by omega)
          have hg2 : (9223372036854775807 < 1 + x.bs.size + 1) = False := eq_false (by omega)
          have HEN : Hid (en = i + 1 + l ∧ en ≤ n) := Lib.hid ⟨hen, henn⟩
          clear hi0 hen henn hlb
          go_upto_region 10 with fail
          clear q0 q2 HT HN hip
          as_aux_lemma =>
          go_wp2_with fail
          (first | (go_region_held3 (fun w' => w'.cell? ⟨b, off + i * 4 + 3, none⟩ = some (.slice A' n' c')) (first | exact HQW.out _ HB.out | exact HQW.out _ (below_drew1 HB.out) | exact HQW.out _ HB2.out | exact HQW.out _ (below_drew1 HB2.out) | exact HQW.out _ HB3.out) (first
            | (go_at_call 102
               refine (HSB.out _ (by first | exact HB2.out | exact below_drew1 HB2.out | exact HB.out | exact below_drew1 HB.out)).mono ?_
               rintro e w3 ⟨s, rfl, hs, hb3⟩
               (try replace hb3 := und1 hb3)
               have HB3 : Hid (Below w.heap.size w w3) := Lib.hid (by first | exact bqcP hb3 HB2.out | exact bqcP hb3 HB.out)
               have HSS := Lib.hid hs
               have hs9 : s.size ≤ 50000 := by rw [← nm_size, hs]; exact HBT.out
               have hg3 : (9223372036854775807 < 1 + x.bs.size + 1 + s.size) = False := eq_false (by omega)
               have hg4 : (9223372036854775807 < 1 + x.bs.size + 1 + s.size + 1) = False := eq_false (by omega)
               have hg5 : (9223372036854775807 < o.size + (1 + x.bs.size + 1 + s.size + 1)) = False := eq_false (by omega)
               have hg6 : (9223372036854775807 < o.size + 1 + (1 + x.bs.size + 1 + s.size + 1)) = False := eq_false (by omega)
               clear hb3 hs)
            | (go_at_call 99
               refine (l22ShowY_any x HD.out.1 _ A' n' c' (HRE.out _ (by first | exact HB.out | exact below_drew1 HB.out | exact HB3.out | exact below_drew1 HB3.out)) HNE.out).mono ?_
               rintro e w2 ⟨rfl, hb2⟩
               (try replace hb2 := und1 hb2)
               have HB2 : Hid (Below w.heap.size w w2) := Lib.hid (by first | exact bqcP hb2 HB.out | exact bqcP hb2 HB3.out)
               clear hb2))) | fail)
          all_goals
            go_wp2_with fail
            go_roundw
            case rel => exact ⟨en, _, r, HEN.out.2, rfl, by have h := HEN.out.1; congr 1; omega, HC2, HQ2, HT2.out s HSS.out |> Lib.hid, by first | exact HB3 | exact HB2⟩
            case measure => have h := HEN.out; simp [intOf]; omega
      · as_aux_lemma =>
          have hip : (0 : Int) < (i : Int) := by omega
          have HN : Hid (nm (o ++ ⟨#[59]⟩) ++ (Pg.loop x bd r).tx = p.tx) := Lib.hid (by
            rcases HT.out with ⟨h1, _⟩ | ⟨_, h⟩
            · omega
            · rw [nm_app, ← h]; simp [Pg.tl, Pg.tx, nm])
          have HT2 : Hid (∀ s : ByteArray, nm s = bd.tx → TxI p ((o ++ ⟨#[59]⟩) ++ ((((⟨#[119]⟩ ++ x.bs) ++ ⟨#[123]⟩) ++ s) ++ ⟨#[125]⟩)) r en) := Lib.hid (fun s hs => .inr ⟨by omega, by
            have h := HN.out
            rw [← h]
            simp only [nm_app, hs, Ex.nm_bs HD.out.1, Pg.tx, Pg.tl]
            simp [nm]⟩)
          have HBT : Hid (bd.tx.length ≤ 50000) := Lib.hid (by
            have h := congrArg List.length HN.out
            simp only [List.length_append, Pg.tx, Pg.tl, List.drop_succ_cons, List.drop_zero, List.length_cons] at h
            have := HTX.out.1
            simp only [Pg.tx] at this h ⊢
            omega)
          have HSB : Hid (∀ wx, Below w.heap.size w wx → Calls Tryz.prog 102 #[.slice (some ⟨b, off + (i + 1) * 4, none⟩) (en - (i + 1)) (c - (i + 1))] wx (fun e w' => ∃ s, e = .returned (.string s) ∧ nm s = bd.tx ∧ Below wx.heap.size wx w')) := Lib.hid (fun wx hbx => HIH.out bd HD.out.2.2.2.2.1 HD.out.2.2.2.1 HD.out.2.2.2.2.2.1 HBT.out wx _ _ _ (HRB.out wx hbx) (by have := HTX.out; omega))
          have hcut := fun wx : World => run_cutLH wx b off n c (i + 1) en ((i : Int) + 1) ((i : Int) + 1 + (l : Int)) (by omega) (by omega) (by omega) (by have := HTX.out; omega) (by have := HTX.out; omega)
          have hl9 : l ≤ 1000 := by omega
          have hwi : IntKind.i64.wrap ((i : Int) + 1) = (i : Int) + 1 := IntWalk.i64_in _ (by omega)
          have hg1 : (9223372036854775807 < 1 + x.bs.size) = False := eq_false (by omega)
          have hg2 : (9223372036854775807 < 1 + x.bs.size + 1) = False := eq_false (by omega)
          have HEN : Hid (en = i + 1 + l ∧ en ≤ n) := Lib.hid ⟨hen, henn⟩
          clear hi0 hen henn hlb
          go_upto_region 10 with fail
          clear q0 q2 HT HN hip
          as_aux_lemma =>
          go_wp2_with fail
          (first | (go_region_held3 (fun w' => w'.cell? ⟨b, off + i * 4 + 3, none⟩ = some (.slice A' n' c')) (first | exact HQW.out _ HB.out | exact HQW.out _ (below_drew1 HB.out) | exact HQW.out _ HB2.out | exact HQW.out _ (below_drew1 HB2.out) | exact HQW.out _ HB3.out) (first
            | (go_at_call 102
               refine (HSB.out _ (by first | exact HB2.out | exact below_drew1 HB2.out | exact HB.out | exact below_drew1 HB.out)).mono ?_
               rintro e w3 ⟨s, rfl, hs, hb3⟩
               (try replace hb3 := und1 hb3)
               have HB3 : Hid (Below w.heap.size w w3) := Lib.hid (by first | exact bqcP hb3 HB2.out | exact bqcP hb3 HB.out)
               have HSS := Lib.hid hs
               have hs9 : s.size ≤ 50000 := by rw [← nm_size, hs]; exact HBT.out
               have hg3 : (9223372036854775807 < 1 + x.bs.size + 1 + s.size) = False := eq_false (by omega)
               have hg4 : (9223372036854775807 < 1 + x.bs.size + 1 + s.size + 1) = False := eq_false (by omega)
               have hg5 : (9223372036854775807 < o.size + (1 + x.bs.size + 1 + s.size + 1)) = False := eq_false (by omega)
               have hg6 : (9223372036854775807 < o.size + 1 + (1 + x.bs.size + 1 + s.size + 1)) = False := eq_false (by omega)
               clear hb3 hs)
            | (go_at_call 99
               refine (l22ShowY_any x HD.out.1 _ A' n' c' (HRE.out _ (by first | exact HB.out | exact below_drew1 HB.out | exact HB3.out | exact below_drew1 HB3.out)) HNE.out).mono ?_
               rintro e w2 ⟨rfl, hb2⟩
               (try replace hb2 := und1 hb2)
               have HB2 : Hid (Below w.heap.size w w2) := Lib.hid (by first | exact bqcP hb2 HB.out | exact bqcP hb2 HB3.out)
               clear hb2))) | fail)
          all_goals
            go_wp2_with fail
            go_roundw
            case rel => exact ⟨en, _, r, HEN.out.2, rfl, by have h := HEN.out.1; congr 1; omega, HC2, HQ2, HT2.out s HSS.out |> Lib.hid, by first | exact HB3 | exact HB2⟩
            case measure => have h := HEN.out; simp [intOf]; omega
theorem l22TextY_any : ∀ (n : Nat) (p : Pg), p.sz ≤ n → p.sz ≤ 1000 → p.ok → p.nb → p.tx.length ≤ 50000 → TxCon p
  | 0, p, h, h2, hok, hnb, htx => l22TextY_step p hok hnb htx h2 (fun b hb _ _ _ => by omega)
  | n + 1, p, h, h2, hok, hnb, htx => l22TextY_step p hok hnb htx h2 (fun b hb h3 h4 h5 => l22TextY_any n b (by omega) (by omega) h3 h4 h5)
end Go.Proofs.YtadmbphefpfbmaaGreatDoor
