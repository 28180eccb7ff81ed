/- Texts in one file: CtxL, CtxP, CtxR. -/
import Derived.Test.YtanicbbgneobpaaGreatGE
/- The rule and the window that is lost. -/
namespace Go.Proofs.YtanicbbgneobpaaGreat
open Go.RowKit
set_option linter.unusedVariables false
set_option linter.unusedSimpArgs false
def LosP (w : World) (r : Rul) (xs : List Int) (e : Ending) (w' : World) : Prop :=
  ∃ A n c, e = .returned (.tuple #[rulV r, .slice A n c, .bool (isR r)]) ∧ w'.ownsRow w.heap.size 2 1 (.slice A n c) n (ints (if isR r then lostOf r xs else [])) ∧ Below w.heap.size w w'
/-- 's[:i]'. -/
theorem run_cutTo {P : Program} {t e : TypeId} {sz : Nat} (ht : P.underlying t = some (.slice e)) (hi : (P.info? e).map (·.size) = some sz) (w : World) (A : Option Addr) (len cap k : Nat) (i : Int) (q : IntKind) (hik : i = k) (h1 : k ≤ cap) :
    (Instr.slice t (.slice A len cap) none (some (.int q i)) none).run P w = .ok (.slice A k cap) w := by
  have ee : P.elem t = e := by simp [Program.elem, ht]
  subst hik
  rw [run_slice_h w t _ len cap (by rw [ee]; exact ht) q k (by omega) (by omega), ee, run_size hi w]
  have ha : ∀ a : Addr, a.add 0 = a := fun a => by simp [Addr.add]
  simp only [Result.andThen, sliced, Int.toNat_natCast, Nat.zero_mul, Nat.sub_zero, ha]
  cases A <;> simp
theorem own_set3 {w : World} {base e n g : Nat} {v a b c : Value} {vs : List Value} (h : w.ownsRow base e 1 v n vs) (hg : ¬ Fo v g) : (((w.setCell ⟨g, 0, none⟩ a).setCell ⟨g, 1, none⟩ b).setCell ⟨g, 2, none⟩ c).ownsRow base e 1 v n vs :=
  own_ch h (((ch_set w g 0 a).trans (ch_set _ g 1 b)).trans (ch_set _ g 2 c)) (fun k h1 h2 => by subst h2; exact hg h1)
theorem below_set3 {B : Nat} {w0 w : World} {g : Nat} {a b c : Value} (h : Below B w0 w) (hg : B ≤ g) (hs : B ≤ w.heap.size) : Below B w0 (((w.setCell ⟨g, 0, none⟩ a).setCell ⟨g, 1, none⟩ b).setCell ⟨g, 2, none⟩ c) :=
  below_ch h (((ch_set w g 0 a).trans (ch_set _ g 1 b)).trans (ch_set _ g 2 c)) (fun k hk => by subst hk; exact hg) hs
set_option maxHeartbeats 8000000 in
theorem lost_any (w : World) (s t : Int) (A : Option Addr) (n c : Nat) (rs : List Rul) (hr : Rd w A (n * 3) (ints (flatR rs))) (hn : n ≤ 1099511627776) (st : Int) (A1 : Option Addr) (n1 c1 : Nat) (xs : List Int) (hr1 : Rd w A1 n1 (ints xs)) (hn1 : n1 ≤ c1) (hz : ctxC s t rs st xs = 0) :
    Calls Tryz.prog 125 #[mchV s t A n c, .int .i64 st, .slice A1 n1 c1] w (LosP w (ruleOf s rs st xs) xs) := by
  obtain ⟨k, hk, hrk, hp0, hp1, hmb, hkl⟩ := rule_get hz
  obtain ⟨_, hodd, hh, _⟩ := ctx_zero hz
  have hl : xs.length = n1 := by simpa using hr1.1
  have hnr : rs.length = n := by have h := hr.1; simp only [List.length_map, flatR_len] at h; omega
  obtain ⟨b0, off0, hA0, hb0, q0, r1, r2⟩ := rdR hr hrk
  obtain ⟨b1, off1, hA1, hb1, q1⟩ := hr1.at_ (ints_get (mid_get hodd))
  subst hA0 hA1
  have hmv : isR (ruleOf s rs st xs) = true → (ruleOf s rs st xs).mv = 1 ∨ (ruleOf s rs st xs).mv = -1 := isR_mv hz
  obtain ⟨h, hhe⟩ : ∃ h, h = xs.length / 2 := ⟨_, rfl⟩
  have HLX := Lib.hid hl
  have HODD : Hid (n1 = 2 * h + 1) := Lib.hid (by omega)
  have hn1h : n1 = 2 * h + 1 := HODD.out
  rw [← hhe] at q1 hh
  have ed : Int.tdiv (n1 : Int) 2 = (h : Int) := by rw [Int.tdiv_eq_ediv_of_nonneg (by omega)]; omega
  have hh4 : h ≤ 4 := hh.2
  have hh1 : 1 ≤ h := hh.1
  have i0 : (0 : Int) ≤ (h : Int) := by omega
  have i1 : (h : Int) < (n1 : Int) := by omega
  have i2 : (h : Int) ≤ 4 := by omega
  have i2' : h < n1 := by omega
  have hkn : k < n := by omega
  have i3 : (k : Int) < (n : Int) := by omega
  have i4 : (0 : Int) ≤ (k : Int) := by omega
  have i5 : (k : Int) ≤ 6005 := by omega
  have hwk : IntKind.i64.wrap (k : Int) = (k : Int) := IntWalk.i64_in _ (by omega)
  have hw : IntKind.i64.wrap (st * s) = st * s := IntWalk.i64_in _ (by omega)
  have HLO : Hid (lostOf (ruleOf s rs st xs) xs = if (ruleOf s rs st xs).mv = 1 then xs.take h else xs.drop (h + 1)) := Lib.hid (by unfold lostOf; rw [hhe])
  have HR1 := Lib.hid hr1
  clear hrk hz hodd hl hn1h hhe hr hr1
  generalize midOf xs = mx at *
  generalize ruleOf s rs st xs = rr at *
  obtain ⟨rw_, rm, rn⟩ := rr
  dsimp only at q0 r1 r2 hmv
  obtain ⟨w0, hw0⟩ : ∃ w0, w0 = (w.alloc (.cells #[.int .i64 s, .int .i64 t, .slice (some ⟨b0, off0, none⟩) n c] 37)).alloc (.cells #[.int .i64 0, .int .i64 0, .int .i64 0] 97) := ⟨_, rfl⟩
  have hB : Below w.heap.size w w0 := by rw [hw0]; exact (below_new w _).trans ((below_new _ _).mono (by simp))
  have hS : w0.heap.size = w.heap.size + 2 := by rw [hw0]; simp
  have hblk : w0.heap[w.heap.size]? = some (.cells #[.int .i64 s, .int .i64 t, .slice (some ⟨b0, off0, none⟩) n c] 37 (0, 0)) := by rw [hw0]; exact blk_alloc (box_new w _ _) _
  have hblk1 : w0.heap[w.heap.size + 1]? = some (.cells #[.int .i64 0, .int .i64 0, .int .i64 0] 97 (0, 0)) := by rw [hw0]; have h := box_new (w.alloc (.cells #[.int .i64 s, .int .i64 t, .slice (some ⟨b0, off0, none⟩) n c] 37)) #[.int .i64 0, .int .i64 0, .int .i64 0] 97; simpa using h
  have z0 := blk_cell hblk 0 rfl
  have z1 := blk_cell hblk 1 rfl
  have z2 := blk_cell hblk 2 rfl
  replace q0 := (hB.cell (p := ⟨b0, off0 + k * 3, none⟩) hb0).trans q0
  replace r1 := (hB.cell (p := ⟨b0, off0 + k * 3 + 1, none⟩) hb0).trans r1
  replace r2 := (hB.cell (p := ⟨b0, off0 + k * 3 + 2, none⟩) hb0).trans r2
  replace q1 := (hB.cell (p := ⟨b1, off1 + h, none⟩) hb1).trans q1
  have HBN := fun o => below_new w0 o
  have q0a := ((HBN (.cells #[.int .i64 0, .int .i64 0, .int .i64 0] 97)).cell (p := ⟨b0, off0 + k * 3, none⟩) (by show b0 < _; omega)).trans q0
  have r1a := ((HBN (.cells #[.int .i64 0, .int .i64 0, .int .i64 0] 97)).cell (p := ⟨b0, off0 + k * 3 + 1, none⟩) (by show b0 < _; omega)).trans r1
  have r2a := ((HBN (.cells #[.int .i64 0, .int .i64 0, .int .i64 0] 97)).cell (p := ⟨b0, off0 + k * 3 + 2, none⟩) (by show b0 < _; omega)).trans r2
  have q1a := ((HBN (.cells #[.int .i64 0, .int .i64 0, .int .i64 0] 97)).cell (p := ⟨b1, off1 + h, none⟩) (by show b1 < _; omega)).trans q1
  have z0a := ((HBN (.cells #[.int .i64 0, .int .i64 0, .int .i64 0] 97)).cell (p := ⟨w.heap.size, 0, none⟩) (by show w.heap.size < _; omega)).trans z0
  have z2a := ((HBN (.cells #[.int .i64 0, .int .i64 0, .int .i64 0] 97)).cell (p := ⟨w.heap.size, 2, none⟩) (by show w.heap.size < _; omega)).trans z2
  clear HBN
  have HBI := Lib.hid hblk1
  have HB := Lib.hid hB
  have HS := Lib.hid hS
  clear hblk hblk1 hB hS
  go_enter Tryz.func125, Tryz.ntmps125
  go_wp2_with fail
  rw [← hw0]
  clear hw0
  go_region
  obtain ⟨w3, hw3⟩ : ∃ w3, w3 = (w0.alloc (.cells #[.int .i64 rw_, .int .i64 rm, .int .i64 rn] 97)).drew := ⟨_, rfl⟩
  have hb3 : Below w.heap.size w w3 := by rw [hw3]; exact below_drew1 (HB.out.trans ((below_new _ _).mono HB.out.size))
  have h10 : w3.heap[w0.heap.size]? = some (.cells #[.int .i64 rw_, .int .i64 rm, .int .i64 rn] 97 (0, 0)) := by rw [hw3]; exact box_new w0 _ _
  have h6 : w3.heap[w.heap.size + 1]? = some (.cells #[.int .i64 0, .int .i64 0, .int .i64 0] 97 (0, 0)) := by rw [hw3]; exact blk_alloc HBI.out _
  have p0 := blk_cell h10 0 rfl
  have p1 := blk_cell h10 1 rfl
  have p2 := blk_cell h10 2 rfl
  have hs3 : w3.heap.size = w.heap.size + 3 := by rw [hw3]; have h := HS.out; show (w0.alloc _).heap.size = _; simp [h]
  rw [← hw3]
  clear hw3 z0 z1 z2 q0 r1 r2 q1 q0a r1a r2a q1a z0a z2a
  have H6 := Lib.hid h6
  have H10 := Lib.hid h10
  have HB3 := Lib.hid hb3
  have HS3 := Lib.hid hs3
  have hg0 : w0.heap.size = w.heap.size + 2 := HS.out
  clear h6 h10 hb3 hs3 HS HBI HB
  generalize w0.heap.size = g10 at *
  subst hg0
  cases hR : isR ⟨rw_, rm, rn⟩ with
  | false =>
    have HR := Lib.hid hR
    clear hR
    go_wp2_with fail
    refine (isRule_any _ ⟨rw_, rm, rn⟩).mono ?_
    rw [HR.out]
    rintro e w4 ⟨rfl, hb4⟩
    have h6 := blk_bel H6.out hb4
    have h10 := blk_bel H10.out hb4
    clear p0 p1 p2
    have p0 := blk_cell h10 0 rfl
    have p1 := blk_cell h10 1 rfl
    have p2 := blk_cell h10 2 rfl
    have y0 := blk_cell h6 0 rfl
    have y1 := blk_cell h6 1 rfl
    have y2 := blk_cell h6 2 rfl
    have f0 := blk_free h6 0
    have f1 := blk_free h6 1
    have f2 := blk_free h6 2
    have l6 := blk_lt h6
    have HB4 := Lib.hid (HB3.out.trans (hb4.mono HB3.out.size))
    clear h6 h10 hb4
    go_wp2_with fail
    exact bodyPost_ret (v := .tuple #[.agg #[.int .i64 rw_, .int .i64 rm, .int .i64 rn], .slice none 0 0, .bool false]) (by simp [results, Tryz.results125, go_sem, p0, p1, p2, y0, y1, y2]) rfl ⟨none, 0, 0, by rw [HR.out], by rw [HR.out]; exact own_nil _ _ _, below_set3 HB4.out (by omega) HB4.out.size⟩
  | true =>
    have hmv' := hmv hR
    have HR := Lib.hid hR
    clear hR hmv
    go_wp2_with fail
    refine (isRule_any _ ⟨rw_, rm, rn⟩).mono ?_
    rw [HR.out]
    rintro e w4 ⟨rfl, hb4⟩
    have h6 := blk_bel H6.out hb4
    have h10 := blk_bel H10.out hb4
    clear p0 p1 p2
    have p0 := blk_cell h10 0 rfl
    have p1 := blk_cell h10 1 rfl
    have p2 := blk_cell h10 2 rfl
    have y0 := blk_cell h6 0 rfl
    have y1 := blk_cell h6 1 rfl
    have y2 := blk_cell h6 2 rfl
    have f0 := blk_free h6 0
    have f1 := blk_free h6 1
    have f2 := blk_free h6 2
    have l6 := blk_lt h6
    have l10 := blk_lt h10
    have HS4 := Lib.hid hb4.size
    have HB4 := Lib.hid (HB3.out.trans (hb4.mono HB3.out.size))
    clear hb4
    have H6 := Lib.hid h6
    have H10 := Lib.hid h10
    clear h6 h10
    have hmi : ((-1 : Int) == 1) = false := rfl
    rcases hmv' with rfl | rfl
    · have hct := fun (w : World) => run_cutTo Tryz.underlying25 Tryz.szI w (some ⟨b1, off1, none⟩) n1 c1 h (h : Int) .i64 rfl (by omega)
      have HT4 : Hid (Rd w4 (some ⟨b1, off1, none⟩) h (ints (xs.take h))) := Lib.hid (by have h1 := (HR1.out.take h (by omega)).below HB4.out (Nat.le_refl _); rwa [← List.map_take] at h1)
      have HL5 : Hid (lostOf ⟨rw_, 1, rn⟩ xs = xs.take h) := Lib.hid (by rw [HLO.out, if_pos rfl])
      go_wp2_with fail
      (first
        | (go_region_law (first
            | (go_simp
               go_at_call 82
               refine (clone_any _ _ h c1 (xs.take h) (by exact HT4.out.drew) (by omega)).mono ?_
               rintro e w5 ⟨A5, n5, c5, rfl, ho5, hb5⟩
               replace hb5 := und1 hb5
               have h6 := blk_bel H6.out hb5
               have h10 := blk_bel H10.out hb5
               clear p0 p1 p2 y0 y1 y2 f0 f1 f2
               have p0 := blk_cell h10 0 rfl
               have p1 := blk_cell h10 1 rfl
               have p2 := blk_cell h10 2 rfl
               have y0 := blk_cell h6 0 rfl
               have y1 := blk_cell h6 1 rfl
               have y2 := blk_cell h6 2 rfl
               have f0 := blk_free h6 0
               have f1 := blk_free h6 1
               have f2 := blk_free h6 2
               have HO5 := Lib.hid ho5
               have HB5 := Lib.hid (HB4.out.trans (hb5.mono HB4.out.size))
               clear ho5 hb5 h6 h10)))
        | fail)
      all_goals
        go_wp2_with fail
        exact bodyPost_ret (v := .tuple #[.agg #[.int .i64 rw_, .int .i64 1, .int .i64 rn], .slice A5 n5 c5, .bool true]) (by simp [results, Tryz.results125, go_sem, p0, p1, p2, y0, y1, y2]) rfl ⟨A5, n5, c5, by rw [HR.out], by rw [HR.out, if_pos rfl, HL5.out]; exact own_set3 (ownN_base HO5.out (by show _ ≤ w4.heap.size; omega)) (fun hk => by have h9 := (HO5.out.lt _ hk).1; have h8 : w4.heap.size ≤ w.heap.size + 1 := h9; omega), below_set3 HB5.out (by omega) HB5.out.size⟩
    · have HL5 : Hid (lostOf ⟨rw_, -1, rn⟩ xs = xs.drop (h + 1)) := Lib.hid (by rw [HLO.out]; exact if_neg (by decide))
      have hn1h : n1 = 2 * h + 1 := HODD.out
      have hwh : IntKind.i64.wrap ((h : Int) + 1) = (h : Int) + 1 := IntWalk.i64_in _ (by omega)
      have j0 : (0 : Int) ≤ (h : Int) + 1 := by omega
      have j1 : (h : Int) + 1 ≤ (n1 : Int) := by omega
      have j2 : h + 1 ≤ n1 := by omega
      by_cases hcc : h + 1 < c1
      · have hct := fun (w : World) => run_cut Tryz.underlying25 Tryz.szI w b1 off1 n1 c1 (h + 1) ((h : Int) + 1) .i64 (by push_cast; rfl) j2 hcc
        have HT4 : Hid (Rd w4 (some ⟨b1, off1 + (h + 1), none⟩) (n1 - (h + 1)) (ints (xs.drop (h + 1)))) := Lib.hid (by have h1 := (HR1.out.tail (h + 1) j2).below HB4.out (Nat.le_refl _); rwa [← List.map_drop] at h1)
        have hm9 : n1 - (h + 1) ≤ 9 := by omega
        have hc2 : ¬ c1 = h + 1 := by omega
        have hc3 : ¬ ((c1 : Int) = (h : Int) + 1) := by omega
        clear hn1h
        go_wp2_with fail
        (first
          | (go_region_law (first
              | (go_simp
                 go_at_call 82
                 refine (clone_any _ _ (n1 - (h + 1)) (c1 - (h + 1)) (xs.drop (h + 1)) (by exact HT4.out.drew) (by omega)).mono ?_
                 rintro e w5 ⟨A5, n5, c5, rfl, ho5, hb5⟩
                 replace hb5 := und1 hb5
                 have h6 := blk_bel H6.out hb5
                 have h10 := blk_bel H10.out hb5
                 clear p0 p1 p2 y0 y1 y2 f0 f1 f2
                 have p0 := blk_cell h10 0 rfl
                 have p1 := blk_cell h10 1 rfl
                 have p2 := blk_cell h10 2 rfl
                 have y0 := blk_cell h6 0 rfl
                 have y1 := blk_cell h6 1 rfl
                 have y2 := blk_cell h6 2 rfl
                 have f0 := blk_free h6 0
                 have f1 := blk_free h6 1
                 have f2 := blk_free h6 2
                 have HO5 := Lib.hid ho5
                 have HB5 := Lib.hid (HB4.out.trans (hb5.mono HB4.out.size))
                 clear ho5 hb5 h6 h10)))
          | fail)
        all_goals
          go_wp2_with fail
          exact bodyPost_ret (v := .tuple #[.agg #[.int .i64 rw_, .int .i64 (-1), .int .i64 rn], .slice A5 n5 c5, .bool true]) (by simp [results, Tryz.results125, go_sem, p0, p1, p2, y0, y1, y2]) rfl ⟨A5, n5, c5, by rw [HR.out], by rw [HR.out, if_pos rfl, HL5.out]; exact own_set3 (ownN_base HO5.out (by show _ ≤ w4.heap.size; omega)) (fun hk => by have h9 := (HO5.out.lt _ hk).1; have h8 : w4.heap.size ≤ w.heap.size + 1 := h9; omega), below_set3 HB5.out (by omega) HB5.out.size⟩
      · have hct := fun (w : World) => run_cut0 Tryz.underlying25 Tryz.szI w (some ⟨b1, off1, none⟩) n1 c1 (h + 1) ((h : Int) + 1) .i64 (by push_cast; rfl) j2 (by omega)
        exfalso; omega
end Go.Proofs.YtanicbbgneobpaaGreat
/- LostWindow: the program's answer. -/
namespace Go.Proofs.YtanicbbgneobpaaGreat
open Go.RowKit
set_option linter.unusedVariables false
set_option linter.unusedSimpArgs false
def LwPost (w : World) (r : Int × List Int × Int) (e : Ending) (w' : World) : Prop :=
  ∃ A n c, e = .returned (.tuple #[.int .i64 r.1, .slice A n c, .int .i64 r.2.2]) ∧ w'.ownsRow w.heap.size 2 1 (.slice A n c) n (ints r.2.1) ∧ Below w.heap.size w w'
end Go.Proofs.YtanicbbgneobpaaGreat
/- LostWindow: the reference's answer. Written by mk_ctxr.py. -/
namespace Go.Proofs.YtanicbbgneobpaaGreat
open Go.RowKit
set_option linter.unusedVariables false
set_option linter.unusedSimpArgs false
def RaP (w : World) (r : Rul) (e : Ending) (w' : World) : Prop := e = .returned (.tuple #[rulV r, .bool (isR r)]) ∧ Below w.heap.size w w'
set_option maxHeartbeats 8000000 in
theorem l29RuleAt_any (w : World) (g : Nat) (s t : Int) (A : Option Addr) (n c : Nat) (hm : BM w g s t A n c) (rs : List Rul) (hr : Rd w A (n * 3) (ints (flatR rs))) (hn : n ≤ 1099511627776) (st : Int) (A1 : Option Addr) (n1 c1 : Nat) (xs : List Int) (hr1 : Rd w A1 n1 (ints xs)) (hz : ctxC s t rs st xs = 0) :
    Calls Tryz.prog 120 #[.pointer (some ⟨g, 0, none⟩), .int .i64 st, .slice A1 n1 c1] w (RaP w (ruleOf s rs st xs)) := by
  obtain ⟨k, hk, hrk, hp0, hp1, hmb, hkl⟩ := rule_get hz
  obtain ⟨_, hodd, hh, _⟩ := ctx_zero hz
  have hl : xs.length = n1 := by simpa using hr1.1
  have hnr : rs.length = n := by have h := hr.1; simp only [List.length_map, flatR_len] at h; omega
  obtain ⟨b0, off0, hA0, hb0, q0, r1, r2⟩ := rdR hr hrk
  obtain ⟨b1, off1, hA1, hb1, q1⟩ := hr1.at_ (ints_get (mid_get hodd))
  subst hA0 hA1
  obtain ⟨h, hhe⟩ : ∃ h, h = xs.length / 2 := ⟨_, rfl⟩
  have hn1h : n1 = 2 * h + 1 := by omega
  rw [← hhe] at q1 hh
  have ed : Int.tdiv (n1 : Int) 2 = (h : Int) := by rw [Int.tdiv_eq_ediv_of_nonneg (by omega)]; omega
  have hh4 : h ≤ 4 := hh.2
  have i0 : (0 : Int) ≤ (h : Int) := by omega
  have i1 : (h : Int) < (n1 : Int) := by omega
  have i2 : (h : Int) ≤ 4 := by omega
  have i2' : h < n1 := by omega
  have hkn : k < n := by omega
  have i3 : (k : Int) < (n : Int) := by omega
  have i4 : (0 : Int) ≤ (k : Int) := by omega
  have i5 : (k : Int) ≤ 6005 := by omega
  have hwk : IntKind.i64.wrap (k : Int) = (k : Int) := IntWalk.i64_in _ (by omega)
  have hw : IntKind.i64.wrap (st * s) = st * s := IntWalk.i64_in _ (by omega)
  have hgl := blk_lt hm
  clear hrk hz hodd hl hn1h hhe hr hr1
  generalize midOf xs = mx at *
  generalize ruleOf s rs st xs = rr at *
  obtain ⟨ra, rb, rc⟩ := rr
  dsimp only at q0 r1 r2
  obtain ⟨w0, hw0⟩ : ∃ w0, w0 = w.alloc (.cells #[.int .i64 0, .int .i64 0, .int .i64 0] 97) := ⟨_, rfl⟩
  have hB : Below w.heap.size w w0 := by rw [hw0]; exact below_new w _
  have hS : w0.heap.size = w.heap.size + 1 := by rw [hw0]; simp
  have hblk1 : w0.heap[w.heap.size]? = some (.cells #[.int .i64 0, .int .i64 0, .int .i64 0] 97 (0, 0)) := by rw [hw0]; exact box_new w _ _
  have hm0 := BM.bel hm hB
  obtain ⟨z0, z1, z2⟩ := hm0.cells
  replace q0 := (hB.cell (p := ⟨b0, off0 + k * 3, none⟩) hb0).trans q0
  replace r1 := (hB.cell (p := ⟨b0, off0 + k * 3 + 1, none⟩) hb0).trans r1
  replace r2 := (hB.cell (p := ⟨b0, off0 + k * 3 + 2, none⟩) hb0).trans r2
  replace q1 := (hB.cell (p := ⟨b1, off1 + h, none⟩) hb1).trans q1
  have HBN := fun o => below_new w0 o
  have q0a := ((HBN (.cells #[.int .i64 0, .int .i64 0, .int .i64 0] 97)).cell (p := ⟨b0, off0 + k * 3, none⟩) (by show b0 < _; omega)).trans q0
  have r1a := ((HBN (.cells #[.int .i64 0, .int .i64 0, .int .i64 0] 97)).cell (p := ⟨b0, off0 + k * 3 + 1, none⟩) (by show b0 < _; omega)).trans r1
  have r2a := ((HBN (.cells #[.int .i64 0, .int .i64 0, .int .i64 0] 97)).cell (p := ⟨b0, off0 + k * 3 + 2, none⟩) (by show b0 < _; omega)).trans r2
  have q1a := ((HBN (.cells #[.int .i64 0, .int .i64 0, .int .i64 0] 97)).cell (p := ⟨b1, off1 + h, none⟩) (by show b1 < _; omega)).trans q1
  have z0a := ((HBN (.cells #[.int .i64 0, .int .i64 0, .int .i64 0] 97)).cell (p := ⟨g, 0, none⟩) (by show g < _; omega)).trans z0
  have z2a := ((HBN (.cells #[.int .i64 0, .int .i64 0, .int .i64 0] 97)).cell (p := ⟨g, 2, none⟩) (by show g < _; omega)).trans z2
  clear HBN hm hm0
  have HBI := Lib.hid hblk1
  have HB := Lib.hid hB
  have HS := Lib.hid hS
  clear hblk1 hB hS
  go_enter Tryz.func120, Tryz.ntmps120
  go_wp2_with fail
  rw [← hw0]
  clear hw0
  go_region
  obtain ⟨w3, hw3⟩ : ∃ w3, w3 = (w0.alloc (.cells #[.int .i64 ra, .int .i64 rb, .int .i64 rc] 97)).drew := ⟨_, rfl⟩
  have hb3 : Below w.heap.size w w3 := by rw [hw3]; exact below_drew1 (HB.out.trans ((below_new _ _).mono HB.out.size))
  have h10 : w3.heap[w0.heap.size]? = some (.cells #[.int .i64 ra, .int .i64 rb, .int .i64 rc] 97 (0, 0)) := by rw [hw3]; exact box_new w0 _ _
  have h6 : w3.heap[w.heap.size]? = some (.cells #[.int .i64 0, .int .i64 0, .int .i64 0] 97 (0, 0)) := by rw [hw3]; exact blk_alloc HBI.out _
  have hs3 : w3.heap.size = w.heap.size + 2 := by rw [hw3]; have h := HS.out; show (w0.alloc _).heap.size = _; simp [h]
  rw [← hw3]
  clear hw3 z0 z1 z2 q0 r1 r2 q1 q0a r1a r2a q1a z0a z2a
  have hg0 : w0.heap.size = w.heap.size + 1 := HS.out
  have H6 := Lib.hid h6
  have H10 := Lib.hid h10
  have HB3 := Lib.hid hb3
  have HS3 := Lib.hid hs3
  clear h6 h10 hb3 hs3 HS HBI HB
  generalize w0.heap.size = g10 at *
  subst hg0
  rcases isR_cases ra rb rc with ⟨h1, hR⟩ | ⟨rfl, h1, hR⟩ | ⟨rfl, rfl, h1, hR⟩ | ⟨rfl, rfl, rfl, hR⟩
  · have HR := Lib.hid hR
    clear hR
    have p0 := blk_cell H10.out 0 rfl
    have y0 := blk_cell H6.out 0 rfl
    have f0 := blk_free H6.out 0
    have p1 := blk_cell H10.out 1 rfl
    have y1 := blk_cell H6.out 1 rfl
    have f1 := blk_free H6.out 1
    have p2 := blk_cell H10.out 2 rfl
    have y2 := blk_cell H6.out 2 rfl
    have f2 := blk_free H6.out 2
    go_wp2_with fail
    (first
      | (go_region_law (first
          | (go_simp
             go_at_call 98
             refine (l05None_any _).mono ?_
             rintro e w4 ⟨rfl, hb4⟩
             replace hb4 := und1 hb4
             have h6 := blk_bel H6.out hb4
             have h10 := blk_bel H10.out hb4
             clear p0 p1 p2 y0 y1 y2 f0 f1 f2
             have p0 := blk_cell h10 0 rfl
             have p1 := blk_cell h10 1 rfl
             have p2 := blk_cell h10 2 rfl
             have y0 := blk_cell h6 0 rfl
             have y1 := blk_cell h6 1 rfl
             have y2 := blk_cell h6 2 rfl
             have f0 := blk_free h6 0
             have f1 := blk_free h6 1
             have f2 := blk_free h6 2
             have HB4 := Lib.hid (HB3.out.trans (hb4.mono HB3.out.size))
             clear hb4 h6 h10)))
      | fail)
    all_goals
      go_wp2_with fail
      exact bodyPost_ret (v := .tuple #[.agg #[.int .i64 ra, .int .i64 rb, .int .i64 rc], .bool true]) (by simp [results, Tryz.results120, go_sem, p0, p1, p2, y0, y1, y2]) rfl ⟨by rw [HR.out], below_set3 HB4.out (Nat.le_refl _) HB4.out.size⟩
  · have HR := Lib.hid hR
    clear hR
    have p0 := blk_cell H10.out 0 rfl
    have y0 := blk_cell H6.out 0 rfl
    have f0 := blk_free H6.out 0
    have p1 := blk_cell H10.out 1 rfl
    have y1 := blk_cell H6.out 1 rfl
    have f1 := blk_free H6.out 1
    have p2 := blk_cell H10.out 2 rfl
    have y2 := blk_cell H6.out 2 rfl
    have f2 := blk_free H6.out 2
    go_wp2_with fail
    (first
      | (go_region_law (first
          | (go_simp
             go_at_call 98
             refine (l05None_any _).mono ?_
             rintro e w4 ⟨rfl, hb4⟩
             replace hb4 := und1 hb4
             have h6 := blk_bel H6.out hb4
             have h10 := blk_bel H10.out hb4
             clear p0 p1 p2 y0 y1 y2 f0 f1 f2
             have p0 := blk_cell h10 0 rfl
             have p1 := blk_cell h10 1 rfl
             have p2 := blk_cell h10 2 rfl
             have y0 := blk_cell h6 0 rfl
             have y1 := blk_cell h6 1 rfl
             have y2 := blk_cell h6 2 rfl
             have f0 := blk_free h6 0
             have f1 := blk_free h6 1
             have f2 := blk_free h6 2
             have HB4 := Lib.hid (HB3.out.trans (hb4.mono HB3.out.size))
             clear hb4 h6 h10)))
      | fail)
    all_goals
      go_wp2_with fail
      exact bodyPost_ret (v := .tuple #[.agg #[.int .i64 0, .int .i64 rb, .int .i64 rc], .bool true]) (by simp [results, Tryz.results120, go_sem, p0, p1, p2, y0, y1, y2]) rfl ⟨by rw [HR.out], below_set3 HB4.out (Nat.le_refl _) HB4.out.size⟩
  · have HR := Lib.hid hR
    clear hR
    have p0 := blk_cell H10.out 0 rfl
    have y0 := blk_cell H6.out 0 rfl
    have f0 := blk_free H6.out 0
    have p1 := blk_cell H10.out 1 rfl
    have y1 := blk_cell H6.out 1 rfl
    have f1 := blk_free H6.out 1
    have p2 := blk_cell H10.out 2 rfl
    have y2 := blk_cell H6.out 2 rfl
    have f2 := blk_free H6.out 2
    go_wp2_with fail
    (first
      | (go_region_law (first
          | (go_simp
             go_at_call 98
             refine (l05None_any _).mono ?_
             rintro e w4 ⟨rfl, hb4⟩
             replace hb4 := und1 hb4
             have h6 := blk_bel H6.out hb4
             have h10 := blk_bel H10.out hb4
             clear p0 p1 p2 y0 y1 y2 f0 f1 f2
             have p0 := blk_cell h10 0 rfl
             have p1 := blk_cell h10 1 rfl
             have p2 := blk_cell h10 2 rfl
             have y0 := blk_cell h6 0 rfl
             have y1 := blk_cell h6 1 rfl
             have y2 := blk_cell h6 2 rfl
             have f0 := blk_free h6 0
             have f1 := blk_free h6 1
             have f2 := blk_free h6 2
             have HB4 := Lib.hid (HB3.out.trans (hb4.mono HB3.out.size))
             clear hb4 h6 h10)))
      | fail)
    all_goals
      go_wp2_with fail
      exact bodyPost_ret (v := .tuple #[.agg #[.int .i64 0, .int .i64 0, .int .i64 rc], .bool true]) (by simp [results, Tryz.results120, go_sem, p0, p1, p2, y0, y1, y2]) rfl ⟨by rw [HR.out], below_set3 HB4.out (Nat.le_refl _) HB4.out.size⟩
  · have HR := Lib.hid hR
    clear hR
    have p0 := blk_cell H10.out 0 rfl
    have y0 := blk_cell H6.out 0 rfl
    have f0 := blk_free H6.out 0
    have p1 := blk_cell H10.out 1 rfl
    have y1 := blk_cell H6.out 1 rfl
    have f1 := blk_free H6.out 1
    have p2 := blk_cell H10.out 2 rfl
    have y2 := blk_cell H6.out 2 rfl
    have f2 := blk_free H6.out 2
    go_wp2_with fail
    (first
      | (go_region_law (first
          | (go_simp
             go_at_call 98
             refine (l05None_any _).mono ?_
             rintro e w4 ⟨rfl, hb4⟩
             replace hb4 := und1 hb4
             have h6 := blk_bel H6.out hb4
             have h10 := blk_bel H10.out hb4
             clear p0 p1 p2 y0 y1 y2 f0 f1 f2
             have p0 := blk_cell h10 0 rfl
             have p1 := blk_cell h10 1 rfl
             have p2 := blk_cell h10 2 rfl
             have y0 := blk_cell h6 0 rfl
             have y1 := blk_cell h6 1 rfl
             have y2 := blk_cell h6 2 rfl
             have f0 := blk_free h6 0
             have f1 := blk_free h6 1
             have f2 := blk_free h6 2
             have HB4 := Lib.hid (HB3.out.trans (hb4.mono HB3.out.size))
             clear hb4 h6 h10)))
      | fail)
    all_goals
      go_wp2_with fail
      exact bodyPost_ret (v := .tuple #[.agg #[.int .i64 0, .int .i64 0, .int .i64 (-1)], .bool false]) (by simp [results, Tryz.results120, go_sem, p0, p1, p2, y0, y1, y2]) rfl ⟨by rw [HR.out], below_set3 HB4.out (Nat.le_refl _) HB4.out.size⟩
set_option maxHeartbeats 4000000 in
theorem l29Lost_any (w : World) (ra rb rc : Int) (A1 : Option Addr) (n1 c1 : Nat) (xs : List Int) (hr1 : Rd w A1 n1 (ints xs)) (hc : n1 ≤ c1) (hodd : xs.length % 2 = 1) (h4 : 1 ≤ xs.length / 2 ∧ xs.length / 2 ≤ 4) (hmv : rb = 1 ∨ rb = -1) :
    Calls Tryz.prog 121 #[rulV ⟨ra, rb, rc⟩, .slice A1 n1 c1] w (RetS w 2 (ints (lostOf ⟨ra, rb, rc⟩ xs))) := by
  have hl : xs.length = n1 := by simpa using hr1.1
  obtain ⟨h, hhe⟩ : ∃ h, h = xs.length / 2 := ⟨_, rfl⟩
  have hn1h : n1 = 2 * h + 1 := by omega
  have ed : Int.tdiv (n1 : Int) 2 = (h : Int) := by rw [Int.tdiv_eq_ediv_of_nonneg (by omega)]; omega
  have i2 : (h : Int) ≤ 4 := by omega
  have i2' : h < n1 := by omega
  have hA : ∃ b1 off1, A1 = some ⟨b1, off1, none⟩ := by obtain ⟨b, off, e, _⟩ := hr1.at_ (ints_get (mid_get hodd)); exact ⟨b, off, e⟩
  obtain ⟨b1, off1, rfl⟩ := hA
  have HLO : Hid (lostOf ⟨ra, rb, rc⟩ xs = if rb = 1 then xs.take h else xs.drop (h + 1)) := Lib.hid (by unfold lostOf; rw [hhe])
  have hb := below_new w (.cells #[.int .i64 ra, .int .i64 rb, .int .i64 rc] 97)
  have HR := Lib.hid (hr1.below hb (Nat.le_refl _))
  have HB := Lib.hid hb
  have hh1 : h ≤ n1 := by omega
  have j0 : (0 : Int) ≤ (h : Int) + 1 := by omega
  have j1 : (h : Int) + 1 ≤ (n1 : Int) := by omega
  have j2 : h + 1 ≤ n1 := by omega
  have hwh : IntKind.i64.wrap ((h : Int) + 1) = (h : Int) + 1 := IntWalk.i64_in _ (by omega)
  have hc2 : ¬ c1 = h + 1 := by omega
  have hc3 : ¬ ((c1 : Int) = (h : Int) + 1) := by omega
  have hcc : h + 1 < c1 := by omega
  have hm9 : n1 - (h + 1) ≤ 9 := by omega
  have hhc : h ≤ c1 := by omega
  have hm1 : h ≤ 4 := by omega
  clear hn1h hl hodd h4 hhe hb hr1
  rcases hmv with rfl | rfl
  · have hct := fun (w : World) => run_cutTo Tryz.underlying25 Tryz.szI w (some ⟨b1, off1, none⟩) n1 c1 h (h : Int) .i64 rfl hhc
    have HT4 := Lib.hid (HR.out.take h hh1)
    have hd : ((0 : Int) < 1) = True := by decide
    have HL5 : Hid (lostOf ⟨ra, 1, rc⟩ xs = xs.take h) := Lib.hid (by rw [HLO.out, if_pos rfl])
    go_enter Tryz.func121, Tryz.ntmps121
    go_wp2_with fail
    refine (l00Own_any _ _ h c1 (xs.take h) (by have hq := HT4.out; rw [← List.map_take] at hq; exact hq) (by omega)).mono ?_
    rintro e w5 ⟨A5, n5, c5, rfl, ho5, hb5⟩
    have HO5 := Lib.hid (ownN_base ho5 HB.out.size)
    have HB5 := Lib.hid (HB.out.trans (hb5.mono HB.out.size))
    clear ho5 hb5
    go_wp2_with fail
    go_ret
    exact ⟨A5, n5, c5, rfl, by rw [HL5.out]; exact HO5.out, HB5.out⟩
  · have hct := fun (w : World) => run_cut Tryz.underlying25 Tryz.szI w b1 off1 n1 c1 (h + 1) ((h : Int) + 1) .i64 (by push_cast; rfl) j2 hcc
    have HT4 := Lib.hid (HR.out.tail (h + 1) j2)
    have HL5 : Hid (lostOf ⟨ra, -1, rc⟩ xs = xs.drop (h + 1)) := Lib.hid (by rw [HLO.out]; exact if_neg (by decide))
    go_enter Tryz.func121, Tryz.ntmps121
    go_wp2_with fail
    refine (l00Own_any _ _ (n1 - (h + 1)) (c1 - (h + 1)) (xs.drop (h + 1)) (by have hq := HT4.out; rw [← List.map_drop] at hq; exact hq) (by omega)).mono ?_
    rintro e w5 ⟨A5, n5, c5, rfl, ho5, hb5⟩
    have HO5 := Lib.hid (ownN_base ho5 HB.out.size)
    have HB5 := Lib.hid (HB.out.trans (hb5.mono HB.out.size))
    clear ho5 hb5
    go_wp2_with fail
    go_ret
    exact ⟨A5, n5, c5, rfl, by rw [HL5.out]; exact HO5.out, HB5.out⟩
end Go.Proofs.YtanicbbgneobpaaGreat
