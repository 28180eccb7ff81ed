/- PlainPackage: the program and the reference. -/
import Derived.Test.YtaadobggenbbdaaGreatDoorPkZ
namespace Go.Proofs.YtaadobggenbbdaaGreatDoor
open Go.RowKit
set_option linter.unusedVariables false
set_option linter.unusedSimpArgs false
attribute [local go_sem ↓] Go.wp_at_zero Go.wp_at_succ
def plainP (cs : List Cmd) : List Bool × Int := if isW cs then (if ozW cs then pkP (tPlain.cmd :: cs) .nil else ([], 2)) else ([], 1)
theorem plain_1 {cs : List Cmd} (h : isW cs = false) : plainP cs = ([], 1) := by simp [plainP, h]
theorem plain_2 {cs : List Cmd} (h : isW cs = true) (h2 : ozW cs = false) : plainP cs = ([], 2) := by simp [plainP, h, h2]
theorem plain_3 {cs : List Cmd} (h : isW cs = true) (h2 : ozW cs = true) : plainP cs = pkP (tPlain.cmd :: cs) .nil := by simp [plainP, h, h2]
theorem plain_len (cs : List Cmd) : (plainP cs).1.length ≤ 1000000 := by
  unfold plainP
  split
  · split
    · exact pk_len _ _
    · simp
  · simp
set_option maxHeartbeats 4000000 in
set_option maxRecDepth 100000 in
theorem implPlainPackage_any (w : World) (A : Option Addr) (n c : Nat) (cs : List Cmd) (hr : RdC w A n cs) (hn : n ≤ 1099511627776) (hnc : n ≤ c) :
    Calls Tryz.prog 17 #[.slice A n c] w (RetSI w 4 (bools (plainP cs).1) (plainP cs).2) := by
  have HV := ValidWhileX_any w A n c cs hr hn hnc
  cases hW : isW cs with
  | false =>
    rw [hW] at HV
    rw [plain_1 hW]
    clear hr
    go_enter Tryz.func17, Tryz.ntmps17
    go_wp2_with (go_at_call 39; refine HV.mono ?_; rintro e w2 ⟨rfl, hb2⟩)
    go_ret2
    exact ⟨none, 0, 0, rfl, own_nil _ _ _, hb2⟩
  | true =>
    rw [hW] at HV
    replace HV := Lib.hid HV
    have hn80 : n ≤ 80 := by have h1 := hr.len; simp [isW] at hW; omega
    have HZ := Lib.hid (fun (w2 : World) (hb : Below w.heap.size w w2) => zeroCode_any w2 A n c cs (hr.below hb (Nat.le_refl _)) (by omega))
    have HBH := Lib.hid (fun (w2 : World) (hb : Below w.heap.size w w2) => behind_any tPlain _ ok_tPlain w2 A n c cs (hr.below hb (Nat.le_refl _)) (by omega))
    cases hO : ozW cs with
    | false =>
      rw [plain_2 hW hO]
      have HO := Lib.hid hO
      clear hr hW hO
      go_enter Tryz.func17, Tryz.ntmps17
      go_wp2_with (first
        | (go_at_call 39; refine HV.out.mono ?_; rintro e w2 ⟨rfl, hb2⟩; have HB2 := Lib.hid hb2; clear hb2)
        | (go_at_call 40; refine (HZ.out w2 HB2.out).mono ?_; rw [HO.out]; rintro e w3 ⟨rfl, hb3⟩; have HB3 := Lib.hid (bqcP hb3 HB2.out); clear hb3))
      go_ret2
      exact ⟨none, 0, 0, rfl, own_nil _ _ _, HB3.out⟩
    | true =>
      rw [plain_3 hW hO]
      have HO := Lib.hid hO
      clear hr hW hO
      obtain ⟨q, hq⟩ : ∃ q, q = pkP (tPlain.cmd :: cs) .nil := ⟨_, rfl⟩
      have HQ := Lib.hid hq
      rw [← hq]
      clear hq
      obtain ⟨qb, qc⟩ := q
      go_enter Tryz.func17, Tryz.ntmps17
      go_wp2_with (first
        | (go_at_call 39; refine HV.out.mono ?_; rintro e w2 ⟨rfl, hb2⟩; have HB2 := Lib.hid hb2; clear hb2)
        | (go_at_call 40; refine (HZ.out w2 HB2.out).mono ?_; rw [HO.out]; rintro e w3 ⟨rfl, hb3⟩; have HB3 := Lib.hid (bqcP hb3 HB2.out); clear hb3)
        | (go_at_call 42
           refine (HBH.out w3 HB3.out).mono ?_
           rintro e w4 ⟨A4, c4, rfl, hrc, hc4, hb4⟩
           have HPK := packaged_any w4 w4.heap.size A4 (1 + n) c4 _ (.pointer none) .nil hrc (by omega) hc4 (show IsT w4 _ _ (.pointer none) .nil from rfl) (Nat.le_refl _) (by decide)
           rw [← HQ.out] at HPK
           replace HPK := Lib.hid HPK
           have HB4 := Lib.hid (bqcP hb4 HB3.out)
           clear hrc hc4 hb4)
        | (go_at_call 41
           refine HPK.out.mono ?_
           rintro e w5 ⟨A5, n5, c5, rfl, ho5, hb5⟩
           have HO5 := Lib.hid ho5
           have HB5 := Lib.hid (bqcP hb5 HB4.out)
           clear ho5 hb5))
      go_ret2
      exact ⟨A5, n5, c5, rfl, own_base HO5.out HB4.out.size, HB5.out⟩
set_option maxHeartbeats 1000000 in
theorem l24Make_no (w : World) (A : Option Addr) (n c : Nat) (cs : List Cmd) (hr : RdC w A n cs) (hn : n ≤ 1099511627776) (hv : isW cs = false) (d : Value) : Calls Tryz.prog 35 #[.slice A n c, d] w (RetSI w 4 [] 5) := by
  have HC := Lib.hid (l24Code_any w A n c cs hr hn)
  have HO : Hid (l24P cs = ([], 5)) := Lib.hid (by simp [l24P, hv])
  clear hr hv
  go_enter Tryz.func35, Tryz.ntmps35
  go_wp2_with (go_at_call 48; refine HC.out.mono ?_; rw [HO.out]; rintro e w2 ⟨A2, n2, c2, rfl, ho2, hb2⟩; have HB2 := Lib.hid hb2; clear ho2 hb2)
  go_ret2
  exact ⟨none, 0, 0, rfl, own_nil _ _ _, HB2.out⟩
theorem isW_long {x : Tx} {cs : List Cmd} (hx : x.els.length ≤ 40) (h : isW cs = true) : isW (x.cmd :: cs) = decide ((x.cmd :: cs).length ≤ 80) := by
  have hok : okC (x.cmd :: cs) = true := by
    have h2 := (isW_ok h).2
    rw [okC_set (Tx.wf hx) rfl, h2]; rfl
  unfold isW
  rw [hok, Bool.and_true]
set_option maxHeartbeats 4000000 in
set_option maxRecDepth 100000 in
theorem makeAny_any (w : World) (A : Option Addr) (n c : Nat) (x : Tx) (cs : List Cmd) (hx : x.els.length ≤ 40) (hr : RdC w A n (x.cmd :: cs)) (hn : n ≤ 1000000) (hv : isW cs = true) (A1 : Option Addr) (n1 c1 : Nat) (d : Tr) (hd : Rd w A1 n1 (bools d.bits)) (hdn : d.nodes ≤ 900000) :
    Calls Tryz.prog 35 #[.slice A n c, .slice A1 n1 c1] w (RetSI w 4 (bools (pkP (x.cmd :: cs) d).1) (pkP (x.cmd :: cs) d).2) := by
  have hl := isW_long hx hv
  by_cases h80 : (x.cmd :: cs).length ≤ 80
  · exact l24Make_any w A n c _ hr (by omega) (by rw [hl]; exact decide_eq_true h80) A1 n1 c1 d hd hdn
  · rw [pk_long h80]
    exact l24Make_no w A n c _ hr (by omega) (by rw [hl]; exact decide_eq_false h80) _
set_option maxHeartbeats 4000000 in
set_option maxRecDepth 100000 in
theorem specPlainPackage_any (w : World) (A : Option Addr) (n c : Nat) (cs : List Cmd) (hr : RdC w A n cs) (hn : n ≤ 1099511627776) :
    Calls Tryz.prog 15 #[.slice A n c] w (RetSI w 4 (bools (plainP cs).1) (plainP cs).2) := by
  have HV := l22IsX_any w A n c cs hr hn
  cases hW : isW cs with
  | false =>
    rw [hW] at HV
    rw [plain_1 hW]
    clear hr
    go_enter Tryz.func15, Tryz.ntmps15
    go_wp2_with (go_at_call 33; refine HV.mono ?_; rintro e w2 ⟨rfl, hb2⟩)
    go_ret2
    exact ⟨none, 0, 0, rfl, own_nil _ _ _, hb2⟩
  | true =>
    rw [hW] at HV
    replace HV := Lib.hid HV
    have hn80 : n ≤ 80 := by have h1 := hr.len; simp [isW] at hW; omega
    have HZ := Lib.hid (fun (w2 : World) (hb : Below w.heap.size w w2) => l24Variables_any w2 A n c cs (hr.below hb (Nat.le_refl _)) hW)
    have HBF := Lib.hid (fun (w2 : World) (hb : Below w.heap.size w w2) => l24Before_any tPlain _ src_tPlain w2 A n c cs (hr.below hb (Nat.le_refl _)) (by omega))
    cases hO : ozW cs with
    | false =>
      rw [plain_2 hW hO]
      have HO := Lib.hid hO
      clear hr hW hO
      go_enter Tryz.func15, Tryz.ntmps15
      go_wp2_with (first
        | (go_at_call 33; refine HV.out.mono ?_; rintro e w2 ⟨rfl, hb2⟩; have HB2 := Lib.hid hb2; clear hb2)
        | (go_at_call 34; refine (HZ.out w2 HB2.out).mono ?_; rw [HO.out]; rintro e w3 ⟨rfl, hb3⟩; have HB3 := Lib.hid (bqcP hb3 HB2.out); clear hb3))
      go_ret2
      exact ⟨none, 0, 0, rfl, own_nil _ _ _, HB3.out⟩
    | true =>
      rw [plain_3 hW hO]
      have HO := Lib.hid hO; have HW := Lib.hid hW
      clear hr hW hO
      obtain ⟨q, hq⟩ : ∃ q, q = pkP (tPlain.cmd :: cs) .nil := ⟨_, rfl⟩
      have HQ := Lib.hid hq
      rw [← hq]
      clear hq
      obtain ⟨qb, qc⟩ := q
      go_enter Tryz.func15, Tryz.ntmps15
      go_wp2_with (first
        | (go_at_call 33; refine HV.out.mono ?_; rintro e w2 ⟨rfl, hb2⟩; have HB2 := Lib.hid hb2; clear hb2)
        | (go_at_call 34; refine (HZ.out w2 HB2.out).mono ?_; rw [HO.out]; rintro e w3 ⟨rfl, hb3⟩; have HB3 := Lib.hid (bqcP hb3 HB2.out); clear hb3)
        | (go_at_call 36
           refine (HBF.out w3 HB3.out).mono ?_
           rintro e w4 ⟨A4, c4, rfl, hrc, hc4, hb4⟩
           have HRC := Lib.hid hrc
           have HB4 := Lib.hid (bqcP hb4 HB3.out)
           clear hrc hc4 hb4)
        | (go_at_call 37
           have hh := l21Nil_any w4
           refine hh.mono ?_
           rintro e w5 ⟨A5, n5, c5, rfl, ho5, hb5⟩
           have HMK := makeAny_any w5 A4 (1 + n) c4 tPlain cs (by decide) (HRC.out.below hb5 (Nat.le_refl _)) (by omega) HW.out A5 n5 c5 .nil (own_rd ho5) (by decide)
           rw [← HQ.out] at HMK
           replace HMK := Lib.hid HMK
           have HB5 := Lib.hid (bqcP hb5 HB4.out)
           clear hh ho5 hb5)
        | (go_at_call 35
           refine HMK.out.mono ?_
           rintro e w6 ⟨A6, n6, c6, rfl, ho6, hb6⟩
           have HO6 := Lib.hid ho6
           have HB6 := Lib.hid (bqcP hb6 HB5.out)
           clear ho6 hb6))
      go_ret2
      exact ⟨A6, n6, c6, rfl, own_base HO6.out HB5.out.size, HB6.out⟩
end Go.Proofs.YtaadobggenbbdaaGreatDoor
