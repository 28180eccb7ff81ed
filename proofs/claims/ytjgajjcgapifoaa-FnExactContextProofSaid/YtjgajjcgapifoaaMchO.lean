/- Machines: l05Is; the counts of used states and symbols. Written by mk_mcho.py. -/
import Derived.Test.YtjgajjcgapifoaaMchN
namespace Go.Proofs.Ytjgajjcgapifoaa
open Go.RowKit
set_option linter.unusedVariables false
set_option linter.unusedSimpArgs false
/-- A machine behind a pointer. -/
def BM (w : World) (g : Nat) (s t : Int) (A : Option Addr) (n c : Nat) : Prop := w.heap[g]? = some (.cells #[.int .i64 s, .int .i64 t, .slice A n c] 31 (0, 0))
theorem BM.bel {w w' : World} {g n c : Nat} {s t : Int} {A : Option Addr} (h : BM w g s t A n c) (hb : Below w.heap.size w w') : BM w' g s t A n c := blk_bel h hb
theorem BM.cells {w : World} {g n c : Nat} {s t : Int} {A : Option Addr} (h : BM w g s t A n c) : w.cell? ⟨g, 0, none⟩ = some (.int .i64 s) ∧ w.cell? ⟨g, 1, none⟩ = some (.int .i64 t) ∧ w.cell? ⟨g, 2, none⟩ = some (.slice A n c) := ⟨blk_cell h 0 rfl, blk_cell h 1 rfl, blk_cell h 2 rfl⟩
set_option maxHeartbeats 4000000 in
theorem l05Is_any (w : World) (g : Nat) (s t : Int) (A : Option Addr) (n c : Nat) (hm : BM w g s t A n c) (rs : List Rul) (hr : Rd w A (n * 3) (ints (flatR rs))) (hn : n ≤ 1099511627776) : Calls Try.prog 62 #[.pointer (some ⟨g, 0, none⟩)] w (RetV w (.bool (okM s t rs))) := by
  have hl : rs.length = n := by have := hr.1; simp [flatR_len] at this; omega
  obtain ⟨q0, q1, q2⟩ := hm.cells
  rcases okM_cases s t rs n hl with ⟨h1, hO⟩ | ⟨h1, h2, hO⟩ | ⟨h1, h2, h3, hO⟩ | ⟨h1, h2, h3, hO⟩
  · have HO := Lib.hid hO; have HL := Lib.hid hl; clear hO hl
    go_enter Try.func62, Try.ntmps62
    go_wp2_with fail
    go_quiet ((go_at_call 74; exact Calls.quiet_of_same ((l00In_any _ _ _ _).mono fun e w' h => ⟨h.1, h.2.symm⟩)))
    go_wp2_with fail
    go_ret
    exact ⟨by rw [HO.out]; rfl, below_drewN (Below.refl _ _)⟩
  · have HO := Lib.hid hO; have HL := Lib.hid hl; clear hO hl
    go_enter Try.func62, Try.ntmps62
    go_wp2_with fail
    go_quiet ((go_at_call 74; exact Calls.quiet_of_same ((l00In_any _ _ _ _).mono fun e w' h => ⟨h.1, h.2.symm⟩)))
    go_wp2_with fail
    go_ret
    exact ⟨by rw [HO.out]; rfl, below_drewN (Below.refl _ _)⟩
  · have hp := prod_in (inB_true.1 h1) (inB_true.1 h2)
    have hw : IntKind.i64.wrap (s * t) = s * t := IntWalk.i64_in _ (by omega)
    have hne : ((n : Int) != s * t) = true := by simpa using h3
    clear hp h3
    have HO := Lib.hid hO; have HL := Lib.hid hl; clear hO hl
    go_enter Try.func62, Try.ntmps62
    go_wp2_with fail
    go_quiet ((go_at_call 74; exact Calls.quiet_of_same ((l00In_any _ _ _ _).mono fun e w' h => ⟨h.1, h.2.symm⟩)))
    go_wp2_with fail
    go_ret
    exact ⟨by rw [HO.out]; rfl, below_drewN (Below.refl _ _)⟩
  · have hp := prod_in (inB_true.1 h1) (inB_true.1 h2)
    have hw : IntKind.i64.wrap (s * t) = s * t := IntWalk.i64_in _ (by omega)
    have hne : ((n : Int) != s * t) = false := by simpa using h3
    have hsb := inB_true.1 h1
    have htb := inB_true.1 h2
    have HO := Lib.hid hO; have HL := Lib.hid hl; clear hO hl hp h3
    go_enter Try.func62, Try.ntmps62
    go_wp2_with fail
    go_quiet ((go_at_call 74; exact Calls.quiet_of_same ((l00In_any _ _ _ _).mono fun e w' h => ⟨h.1, h.2.symm⟩)))
    clear hw hne
    go_wp2_with fail
    have HM := Lib.hid hm
    clear hm q0 q1 q2 h1 h2
    go_loopw [3] (fun q wr => ∃ k : Nat, k ≤ n ∧ q = .int .i64 k ∧ Hid ((rs.take k).all (okR s t) = true) ∧ Below w.heap.size w wr) (fun q _ => n - (intOf q).toNat)
    case atStart => exact ⟨0, Nat.zero_le _, rfl, Lib.hid (by simp), below_drewN (Below.refl _ _)⟩
    case round =>
      obtain ⟨k, hk, rfl, hall, hb⟩ := hrel
      obtain ⟨q0, q1, q2⟩ := (BM.bel HM.out hb).cells
      have hgl : g < wr.heap.size := blk_lt (BM.bel HM.out hb)
      by_cases hlt : k < n
      · obtain ⟨⟨a, b, d⟩, hx⟩ := get_some (xs := rs) (k := k) (by rw [HL.out]; omega)
        obtain ⟨b', off, rfl, hbs, r0, r1, r2⟩ := rdR hr hx
        replace r0 := (hb.cell (p := ⟨b', off + k * 3, none⟩) hbs).trans r0
        replace r1 := (hb.cell (p := ⟨b', off + k * 3 + 1, none⟩) hbs).trans r1
        replace r2 := (hb.cell (p := ⟨b', off + k * 3 + 2, none⟩) hbs).trans r2
        simp only at r0 r1 r2
        have hbs' : b' < wr.heap.size := Nat.lt_of_lt_of_le hbs hb.size
        have hk0 : (0 : Int) ≤ (k : Int) := by omega
        have hk1 : (k : Int) < (n : Int) := by omega
        have HX := Lib.hid hx
        clear hx
        cases hin : okR s t ⟨a, b, d⟩ with
        | true =>
          have HIN := Lib.hid hin
          clear hin
          go_wp2_with fail
          go_region_held3 (fun w' => w'.cell? ⟨g, 0, none⟩ = some (.int .i64 s) ∧ w'.cell? ⟨g, 1, none⟩ = some (.int .i64 t) ∧ w'.cell? ⟨g, 2, none⟩ = some (.slice (some ⟨b', off, none⟩) n c) ∧ w'.cell? ⟨b', off + k * 3, none⟩ = some (.int .i64 a) ∧ w'.cell? ⟨b', off + k * 3 + 1, none⟩ = some (.int .i64 b) ∧ w'.cell? ⟨b', off + k * 3 + 2, none⟩ = some (.int .i64 d)) (first | exact ⟨q0, q1, q2, r0, r1, r2⟩ | go_keep) (first
            | (go_at_call 113
               refine (l05Rule_any _ ⟨a, b, d⟩ s t hsb htb).mono ?_
               rw [HIN.out]
               rintro e w2 ⟨rfl, hb2⟩
               (try replace hb2 := und1 hb2)
               (try replace hb2 := undN hb2)
               have q0 := (hb2.cell (p := ⟨g, 0, none⟩) hgl).trans q0
               have q1 := (hb2.cell (p := ⟨g, 1, none⟩) hgl).trans q1
               have q2 := (hb2.cell (p := ⟨g, 2, none⟩) hgl).trans q2
               have r0 := (hb2.cell (p := ⟨b', off + k * 3, none⟩) hbs').trans r0
               have r1 := (hb2.cell (p := ⟨b', off + k * 3 + 1, none⟩) hbs').trans r1
               have r2 := (hb2.cell (p := ⟨b', off + k * 3 + 2, none⟩) hbs').trans r2))
          go_wp2_with fail
          go_roundw
          case rel => exact ⟨k + 1, by omega, by go_num, Lib.hid (all_step hall.out HX.out HIN.out), hb.trans (hb2.mono hb.size)⟩
          case measure => simp [intOf]; omega
        | false =>
          have HIN := Lib.hid hin
          clear hin
          go_wp2_with fail
          go_region_held3 (fun w' => w'.cell? ⟨g, 0, none⟩ = some (.int .i64 s) ∧ w'.cell? ⟨g, 1, none⟩ = some (.int .i64 t) ∧ w'.cell? ⟨g, 2, none⟩ = some (.slice (some ⟨b', off, none⟩) n c) ∧ w'.cell? ⟨b', off + k * 3, none⟩ = some (.int .i64 a) ∧ w'.cell? ⟨b', off + k * 3 + 1, none⟩ = some (.int .i64 b) ∧ w'.cell? ⟨b', off + k * 3 + 2, none⟩ = some (.int .i64 d)) (first | exact ⟨q0, q1, q2, r0, r1, r2⟩ | go_keep) (first
            | (go_at_call 113
               refine (l05Rule_any _ ⟨a, b, d⟩ s t hsb htb).mono ?_
               rw [HIN.out]
               rintro e w2 ⟨rfl, hb2⟩
               (try replace hb2 := und1 hb2)
               (try replace hb2 := undN hb2)
               have q0 := (hb2.cell (p := ⟨g, 0, none⟩) hgl).trans q0
               have q1 := (hb2.cell (p := ⟨g, 1, none⟩) hgl).trans q1
               have q2 := (hb2.cell (p := ⟨g, 2, none⟩) hgl).trans q2
               have r0 := (hb2.cell (p := ⟨b', off + k * 3, none⟩) hbs').trans r0
               have r1 := (hb2.cell (p := ⟨b', off + k * 3 + 1, none⟩) hbs').trans r1
               have r2 := (hb2.cell (p := ⟨b', off + k * 3 + 2, none⟩) hbs').trans r2))
          go_wp2_with fail
          go_ret
          exact ⟨by rw [HO.out, all_out HX.out HIN.out]; rfl, hb.trans (hb2.mono hb.size)⟩
      · go_wp2_with fail
        go_ret
        have h := hall.out
        rw [List.take_of_length_le (by rw [HL.out]; omega)] at h
        exact ⟨by rw [HO.out, h]; rfl, hb⟩

/-- The greatest state and symbol of the rules, and one more. -/
def used : List Rul → Int → Int → Int × Int
  | [], p, q => (p, q)
  | r :: rs, p, q => if isR r = true then used rs (max p (r.nx + 1)) (max q (r.wr + 1)) else used rs p q
theorem used_yes {rs : List Rul} {k : Nat} {x : Rul} {p q : Int} (hx : rs[k]? = some x) (h : isR x = true) : used (rs.drop k) p q = used (rs.drop (k + 1)) (max p (x.nx + 1)) (max q (x.wr + 1)) := by
  rw [drop_get hx, used, if_pos h]
theorem used_no {rs : List Rul} {k : Nat} {x : Rul} {p q : Int} (hx : rs[k]? = some x) (h : isR x = false) : used (rs.drop k) p q = used (rs.drop (k + 1)) p q := by
  rw [drop_get hx, used, if_neg (by simp [h])]
theorem okM_all {s t : Int} {rs : List Rul} (h : okM s t rs = true) : (2 ≤ s ∧ s ≤ 6) ∧ (1 ≤ t ∧ t ≤ 1000) ∧ (rs.length : Int) = s * t ∧ rs.all (okR s t) = true := by
  simp only [okM, Bool.and_eq_true, decide_eq_true_eq, inB_true] at h
  exact ⟨h.1.1.1, h.1.1.2, h.1.2, h.2⟩
theorem okR_bd {s t : Int} {r : Rul} (hs : 2 ≤ s ∧ s ≤ 6) (ht : 1 ≤ t ∧ t ≤ 1000) (h : okR s t r = true) : (0 ≤ r.wr ∧ r.wr ≤ 5) ∧ (-1 ≤ r.nx ∧ r.nx ≤ 999) := by
  by_cases h1 : isR r = true
  · simp only [okR, h1, Bool.not_true, Bool.false_or, Bool.and_eq_true, inB_true] at h
    omega
  · have h2 : r = noR := by simpa [isR] using h1
    subst h2
    simp [noR]
theorem okM_bd {s t : Int} {rs : List Rul} (h : okM s t rs = true) {k : Nat} {x : Rul} (hx : rs[k]? = some x) : (0 ≤ x.wr ∧ x.wr ≤ 5) ∧ (-1 ≤ x.nx ∧ x.nx ≤ 999) := by
  obtain ⟨h1, h2, _, h4⟩ := okM_all h
  exact okR_bd h1 h2 (by rw [List.all_eq_true] at h4; exact h4 x (List.mem_of_getElem? hx))
def UsedPost (w : World) (r : Int × Int) (e : Ending) (w' : World) : Prop := ∃ z : Int, e = .returned (.tuple #[.int .i64 r.1, .int .i64 r.2, .int .i64 z]) ∧ Below w.heap.size w w'
end Go.Proofs.Ytjgajjcgapifoaa
