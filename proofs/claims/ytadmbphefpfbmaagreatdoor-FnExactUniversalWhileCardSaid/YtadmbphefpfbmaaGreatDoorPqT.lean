/- Texts of expressions (program): digits, texts. Printed by mk_pqt.py. -/
import Derived.Test.YtadmbphefpfbmaaGreatDoorPqA
import Derived.Test.YtadmbphefpfbmaaGreatDoorGJ
namespace Go.Proofs.YtadmbphefpfbmaaGreatDoor
open Go.RowKit
set_option linter.unusedVariables false
set_option linter.unusedSimpArgs false
attribute [local go_sem ↓] Go.wp_at_zero Go.wp_at_succ
def decB (d : Nat) : ByteArray := ⟨#[UInt8.ofNat (48 + d)]⟩
set_option maxHeartbeats 400000 in
theorem small1_any (w : World) : Calls Tryz.prog 215 #[.int .i64 1] w fun e w' => e = .returned (.string ⟨#[49]⟩) ∧ w = w' := by
  go_enter Tryz.func215, Tryz.ntmps215
  go_wp2_with fail
  go_ret
  exact ⟨rfl, rfl⟩
set_option maxHeartbeats 400000 in
theorem format1I_any (w : World) : Calls Tryz.prog 180 #[.int .i64 1, .int .i64 10] w fun e w' => e = .returned (.string ⟨#[49]⟩) ∧ w = w' := by
  go_enter Tryz.func180, Tryz.ntmps180
  go_wp2_with (go_at_call 215; refine (small1_any _).mono ?_; rintro e w' ⟨rfl, rfl⟩)
  go_ret
  exact ⟨rfl, rfl⟩
set_option maxHeartbeats 400000 in
theorem format1_any (w : World) : Calls Tryz.prog 146 #[.int .i64 1, .int .i64 10] w fun e w' => e = .returned (.string ⟨#[49]⟩) ∧ w = w' := by
  go_enter Tryz.func146, Tryz.ntmps146
  go_wp2_with (go_at_call 180; refine (format1I_any _).mono ?_; rintro e w' ⟨rfl, rfl⟩)
  go_ret
  exact ⟨rfl, rfl⟩
set_option maxHeartbeats 400000 in
theorem decimal1_any (w : World) : Calls Tryz.prog 104 #[.int .i64 1] w fun e w' => e = .returned (.string ⟨#[49]⟩) ∧ w = w' := by
  go_enter Tryz.func104, Tryz.ntmps104
  go_wp2_with (go_at_call 146; refine (format1_any _).mono ?_; rintro e w' ⟨rfl, rfl⟩)
  go_ret
  exact ⟨rfl, rfl⟩
set_option maxHeartbeats 400000 in
theorem small2_any (w : World) : Calls Tryz.prog 215 #[.int .i64 2] w fun e w' => e = .returned (.string ⟨#[50]⟩) ∧ w = w' := by
  go_enter Tryz.func215, Tryz.ntmps215
  go_wp2_with fail
  go_ret
  exact ⟨rfl, rfl⟩
set_option maxHeartbeats 400000 in
theorem format2I_any (w : World) : Calls Tryz.prog 180 #[.int .i64 2, .int .i64 10] w fun e w' => e = .returned (.string ⟨#[50]⟩) ∧ w = w' := by
  go_enter Tryz.func180, Tryz.ntmps180
  go_wp2_with (go_at_call 215; refine (small2_any _).mono ?_; rintro e w' ⟨rfl, rfl⟩)
  go_ret
  exact ⟨rfl, rfl⟩
set_option maxHeartbeats 400000 in
theorem format2_any (w : World) : Calls Tryz.prog 146 #[.int .i64 2, .int .i64 10] w fun e w' => e = .returned (.string ⟨#[50]⟩) ∧ w = w' := by
  go_enter Tryz.func146, Tryz.ntmps146
  go_wp2_with (go_at_call 180; refine (format2I_any _).mono ?_; rintro e w' ⟨rfl, rfl⟩)
  go_ret
  exact ⟨rfl, rfl⟩
set_option maxHeartbeats 400000 in
theorem decimal2_any (w : World) : Calls Tryz.prog 104 #[.int .i64 2] w fun e w' => e = .returned (.string ⟨#[50]⟩) ∧ w = w' := by
  go_enter Tryz.func104, Tryz.ntmps104
  go_wp2_with (go_at_call 146; refine (format2_any _).mono ?_; rintro e w' ⟨rfl, rfl⟩)
  go_ret
  exact ⟨rfl, rfl⟩
set_option maxHeartbeats 400000 in
theorem small3_any (w : World) : Calls Tryz.prog 215 #[.int .i64 3] w fun e w' => e = .returned (.string ⟨#[51]⟩) ∧ w = w' := by
  go_enter Tryz.func215, Tryz.ntmps215
  go_wp2_with fail
  go_ret
  exact ⟨rfl, rfl⟩
set_option maxHeartbeats 400000 in
theorem format3I_any (w : World) : Calls Tryz.prog 180 #[.int .i64 3, .int .i64 10] w fun e w' => e = .returned (.string ⟨#[51]⟩) ∧ w = w' := by
  go_enter Tryz.func180, Tryz.ntmps180
  go_wp2_with (go_at_call 215; refine (small3_any _).mono ?_; rintro e w' ⟨rfl, rfl⟩)
  go_ret
  exact ⟨rfl, rfl⟩
set_option maxHeartbeats 400000 in
theorem format3_any (w : World) : Calls Tryz.prog 146 #[.int .i64 3, .int .i64 10] w fun e w' => e = .returned (.string ⟨#[51]⟩) ∧ w = w' := by
  go_enter Tryz.func146, Tryz.ntmps146
  go_wp2_with (go_at_call 180; refine (format3I_any _).mono ?_; rintro e w' ⟨rfl, rfl⟩)
  go_ret
  exact ⟨rfl, rfl⟩
set_option maxHeartbeats 400000 in
theorem decimal3_any (w : World) : Calls Tryz.prog 104 #[.int .i64 3] w fun e w' => e = .returned (.string ⟨#[51]⟩) ∧ w = w' := by
  go_enter Tryz.func104, Tryz.ntmps104
  go_wp2_with (go_at_call 146; refine (format3_any _).mono ?_; rintro e w' ⟨rfl, rfl⟩)
  go_ret
  exact ⟨rfl, rfl⟩
set_option maxHeartbeats 400000 in
theorem small4_any (w : World) : Calls Tryz.prog 215 #[.int .i64 4] w fun e w' => e = .returned (.string ⟨#[52]⟩) ∧ w = w' := by
  go_enter Tryz.func215, Tryz.ntmps215
  go_wp2_with fail
  go_ret
  exact ⟨rfl, rfl⟩
set_option maxHeartbeats 400000 in
theorem format4I_any (w : World) : Calls Tryz.prog 180 #[.int .i64 4, .int .i64 10] w fun e w' => e = .returned (.string ⟨#[52]⟩) ∧ w = w' := by
  go_enter Tryz.func180, Tryz.ntmps180
  go_wp2_with (go_at_call 215; refine (small4_any _).mono ?_; rintro e w' ⟨rfl, rfl⟩)
  go_ret
  exact ⟨rfl, rfl⟩
set_option maxHeartbeats 400000 in
theorem format4_any (w : World) : Calls Tryz.prog 146 #[.int .i64 4, .int .i64 10] w fun e w' => e = .returned (.string ⟨#[52]⟩) ∧ w = w' := by
  go_enter Tryz.func146, Tryz.ntmps146
  go_wp2_with (go_at_call 180; refine (format4I_any _).mono ?_; rintro e w' ⟨rfl, rfl⟩)
  go_ret
  exact ⟨rfl, rfl⟩
set_option maxHeartbeats 400000 in
theorem decimal4_any (w : World) : Calls Tryz.prog 104 #[.int .i64 4] w fun e w' => e = .returned (.string ⟨#[52]⟩) ∧ w = w' := by
  go_enter Tryz.func104, Tryz.ntmps104
  go_wp2_with (go_at_call 146; refine (format4_any _).mono ?_; rintro e w' ⟨rfl, rfl⟩)
  go_ret
  exact ⟨rfl, rfl⟩
set_option maxHeartbeats 400000 in
theorem small5_any (w : World) : Calls Tryz.prog 215 #[.int .i64 5] w fun e w' => e = .returned (.string ⟨#[53]⟩) ∧ w = w' := by
  go_enter Tryz.func215, Tryz.ntmps215
  go_wp2_with fail
  go_ret
  exact ⟨rfl, rfl⟩
set_option maxHeartbeats 400000 in
theorem format5I_any (w : World) : Calls Tryz.prog 180 #[.int .i64 5, .int .i64 10] w fun e w' => e = .returned (.string ⟨#[53]⟩) ∧ w = w' := by
  go_enter Tryz.func180, Tryz.ntmps180
  go_wp2_with (go_at_call 215; refine (small5_any _).mono ?_; rintro e w' ⟨rfl, rfl⟩)
  go_ret
  exact ⟨rfl, rfl⟩
set_option maxHeartbeats 400000 in
theorem format5_any (w : World) : Calls Tryz.prog 146 #[.int .i64 5, .int .i64 10] w fun e w' => e = .returned (.string ⟨#[53]⟩) ∧ w = w' := by
  go_enter Tryz.func146, Tryz.ntmps146
  go_wp2_with (go_at_call 180; refine (format5I_any _).mono ?_; rintro e w' ⟨rfl, rfl⟩)
  go_ret
  exact ⟨rfl, rfl⟩
set_option maxHeartbeats 400000 in
theorem decimal5_any (w : World) : Calls Tryz.prog 104 #[.int .i64 5] w fun e w' => e = .returned (.string ⟨#[53]⟩) ∧ w = w' := by
  go_enter Tryz.func104, Tryz.ntmps104
  go_wp2_with (go_at_call 146; refine (format5_any _).mono ?_; rintro e w' ⟨rfl, rfl⟩)
  go_ret
  exact ⟨rfl, rfl⟩
theorem decimalV_any (w : World) (d : Nat) (hd : d ≤ 5) : Calls Tryz.prog 104 #[.int .i64 (d : Int)] w fun e w' => e = .returned (.string (decB d)) ∧ w = w' := by
  match d, hd with
  | 0, _ => exact decimal0_any w
  | 1, _ => exact decimal1_any w
  | 2, _ => exact decimal2_any w
  | 3, _ => exact decimal3_any w
  | 4, _ => exact decimal4_any w
  | 5, _ => exact decimal5_any w
def Ex.bs : Ex → ByteArray
  | .leaf x => if x.1 = 0 then ⟨#[110]⟩ else decB x.2.toNat
  | .un x a => if x.1 = 3 then ⟨#[104]⟩ ++ a.bs else ⟨#[116]⟩ ++ a.bs
  | .bin x a b => if x.1 = 2 then (((⟨#[40]⟩ ++ a.bs) ++ ⟨#[46]⟩) ++ b.bs) ++ ⟨#[41]⟩ else (((⟨#[40]⟩ ++ a.bs) ++ ⟨#[63]⟩) ++ b.bs) ++ ⟨#[41]⟩
theorem bs_n : (Ex.leaf (0, 0)).bs = ⟨#[110]⟩ := rfl
theorem bs_v (d : Nat) : (Ex.leaf (1, (d : Int))).bs = decB d := by simp [Ex.bs]
theorem bs_3 (a : Ex) : (Ex.un (3, 0) a).bs = ⟨#[104]⟩ ++ a.bs := by simp [Ex.bs]
theorem bs_4 (a : Ex) : (Ex.un (4, 0) a).bs = ⟨#[116]⟩ ++ a.bs := by simp [Ex.bs]
theorem bs_2 (a b : Ex) : (Ex.bin (2, 0) a b).bs = (((⟨#[40]⟩ ++ a.bs) ++ ⟨#[46]⟩) ++ b.bs) ++ ⟨#[41]⟩ := by simp [Ex.bs]
theorem bs_5 (a b : Ex) : (Ex.bin (5, 0) a b).bs = (((⟨#[40]⟩ ++ a.bs) ++ ⟨#[63]⟩) ++ b.bs) ++ ⟨#[41]⟩ := by simp [Ex.bs]
theorem Ex.bs_size : ∀ x : Ex, x.bs.size ≤ 5 * x.els.length
  | .leaf x => by
    unfold Ex.bs
    split <;> simp [Ex.els, ByteArray.size, decB]
  | .un x a => by
    have h := a.bs_size
    unfold Ex.bs
    split <;> (simp only [Ex.els, List.length_cons, ByteArray.size_append', ByteArray.size_mk'] at *; simp; omega)
  | .bin x a b => by
    have h := a.bs_size
    have h2 := b.bs_size
    unfold Ex.bs
    split <;> (simp only [Ex.els, List.length_cons, List.length_append, ByteArray.size_append', ByteArray.size_mk'] at *; simp; omega)
def TxtY (w : World) (x : Ex) (e : Ending) (w' : World) : Prop := e = .returned (.string x.bs) ∧ Below w.heap.size w w'
abbrev strsY (ts : List Ex) : List Value := ts.map (fun t => Value.string t.bs)
theorem ops_le {x y : Ex} (h : y ∈ x.ops) : y.els.length ≤ x.els.length := by
  cases x with
  | leaf x => simp [Ex.ops] at h
  | un x a => simp only [Ex.ops, List.mem_singleton] at h; subst h; simp [Ex.els]
  | bin x a b =>
    simp only [Ex.ops, List.mem_cons, List.not_mem_nil, or_false] at h
    rcases h with rfl | rfl <;> simp [Ex.els] <;> omega
theorem ops_ok {x y : Ex} (h : y ∈ x.ops) (hx : x.ok) : y.ok := by
  cases x with
  | leaf x => simp [Ex.ops] at h
  | un x a => simp only [Ex.ops, List.mem_singleton] at h; subst h; exact hx.2
  | bin x a b =>
    simp only [Ex.ops, List.mem_cons, List.not_mem_nil, or_false] at h
    rcases h with rfl | rfl
    · exact hx.2.1
    · exact hx.2.2
set_option maxHeartbeats 8000000 in
set_option maxRecDepth 100000 in
theorem exprTextY_step (x : Ex) (hok : x.ok) (ih : ∀ y ∈ x.ops, ∀ (w : World) (A : Option Addr) (n c : Nat), RdE w A n y.els → n ≤ 1000 → n ≤ c → Calls Tryz.prog 66 #[.slice A n c] w (TxtY w y))
    (w : World) (A : Option Addr) (n c : Nat) (hr : RdE w A n x.els) (hn : n ≤ 1000) (hnc : n ≤ c) : Calls Tryz.prog 66 #[.slice A n c] w (TxtY w x) := by
  have hl := rdE_len hr
  have HIH := Lib.hid ih
  obtain ⟨w1, hw1⟩ : ∃ w1, w1 = w.alloc (.cells #[] 9) := ⟨_, rfl⟩
  have hb1 : Below w.heap.size w w1 := by rw [hw1]; exact below_new _ _
  have HB1 := Lib.hid hb1
  have HO1 : Hid (w1.ownsRow w.heap.size 9 1 (.slice (some ⟨w.heap.size, 0, none⟩) 0 0) 0 []) := Lib.hid (by rw [hw1]; exact own_lit w #[] 0 9 rfl (by omega))
  have hop := operandsS_any w w1 hb1 A n c x (Ex.ok_good hok) hr (by omega) hnc
  unfold OpPostS at hop
  have HOP := Lib.hid hop
  clear hop
  have HKK := Lib.hid hok
  have HR := Lib.hid hr; have HL := Lib.hid hl; have HN := Lib.hid hn
  obtain ⟨M, hM⟩ : ∃ M, M = x.ops.length := ⟨_, rfl⟩
  have HM := Lib.hid hM
  have HMB : Hid (M ≤ 2) := Lib.hid (by rw [hM]; cases x <;> simp [Ex.ops])
  clear ih hr hl hb1 hM hnc hok
  go_enter Tryz.func66, Tryz.ntmps66
  go_upto_region 2 with fail
  rw [← hw1]
  clear hw1
  go_wp2_with (go_at_call 103
               refine HOP.out.mono ?_
               rintro e w2 ⟨A2, c2, vs, rfl, ho2, hp2, hb2⟩
               rw [← HM.out] at ho2 ⊢
               have HO2 := Lib.hid ho2
               have HP2 := Lib.hid hp2
               have HQ2 := Lib.hid (own_below HO1.out hb2 (Nat.le_refl _))
               have HB2 : Hid (Below w.heap.size w w2) := Lib.hid (HB1.out.trans (hb2.mono HB1.out.size))
               clear ho2 hp2 hb2 HOP)
  go_loopw [3, 10] (fun v q wr => ∃ (k : Nat) (A3 : Option Addr) (c3 : Nat), k ≤ M ∧ q = .int .i64 k ∧ v = .slice A3 k c3 ∧ Hid (wr.ownsRow w.heap.size 9 1 (.slice A3 k c3) k (strsY (x.ops.take k))) ∧ Hid (Ch (fun q => ∃ cs, w2.heap[q]? = some (.cells cs 9 (0, 0))) w2 wr) ∧ Hid (Below w.heap.size w wr)) (fun _ q _ => M - (intOf q).toNat)
  case atStart => exact ⟨0, _, _, Nat.zero_le _, by go_num, rfl, Lib.hid (by simpa using HQ2.out), Lib.hid (Ch.refl _ _), HB2⟩
  case round =>
    obtain ⟨k, A3, c3, hk, rfl, rfl, HO, HC, HB⟩ := hrel
    by_cases hlt : k < M
    · skip
      obtain ⟨y, hy⟩ := get_some (xs := x.ops) (k := k) (by rw [← HM.out]; exact hlt)
      obtain ⟨v, hv⟩ := get_some (xs := vs) (k := k) (by rw [HP2.out.1, ← HM.out]; exact hlt)
      obtain ⟨Ay, my, cy, rfl, hmc, hry⟩ := HP2.out.2 k v y hv hy
      obtain ⟨b, off, rfl, hbl, q0⟩ := (own_rd (own_ch HO2.out HC.out (fun q hq ⟨cs, e⟩ => by
        obtain ⟨ds, h1⟩ := own_foP HO2.out hq
        exact blk_ne h1 e (by decide) rfl))).at_ hv
      have hmy : my ≤ 1000 := by
        have h1 := rdE_len hry
        have h2 := ops_le (List.mem_of_getElem? hy)
        have h3 := HL.out
        have h4 := HN.out
        omega
      have HI := Lib.hid (HIH.out y (List.mem_of_getElem? hy) wr Ay my cy (hry.below HB.out (Nat.le_refl _)) hmy hmc)
      have HS : Hid (strsY (x.ops.take (k + 1)) = strsY (x.ops.take k) ++ [.string y.bs]) := Lib.hid (by rw [List.take_add_one, hy]; simp)
      have hlt' : (k : Int) < (M : Int) := by omega
      have hk0 : (0 : Int) ≤ (k : Int) := by omega
      have hmb := HMB.out
      have HKN : Hid (k ≤ 1099511627776) := Lib.hid (by have := HMB.out; omega)
      clear hy hv hry hmc hmy
      go_wp2_with (first
        | (go_at_call 66
           refine HI.out.mono ?_
           rintro e w4 ⟨rfl, hb4⟩
           have HO4 := Lib.hid (own_below HO.out hb4 (Nat.le_refl _))
           have HB4 : Hid (Below w.heap.size w w4) := Lib.hid (bqcP hb4 HB.out)
           have HC4 := Lib.hid (HC.out.trans (ch_below hb4))
           have HZ4 : Hid (w.heap.size ≤ w4.heap.size) := Lib.hid HB4.out.size
           clear hb4)
        | (at_builtin; go_must (refine wpList_app1g eltStr rfl _ _ rfl w4 w.heap.size _ k _ (by rfl) HO4.out _ (by rfl) (by rfl) HZ4.out HKN.out ?_); rintro A5 c5 w5 ho5 hb5 hg5
           have HO5 := Lib.hid ho5
           have HB5 : Hid (Below w.heap.size w w5) := Lib.hid (HB4.out.trans hb5)
           have HC5 := Lib.hid (chT_grow HC4.out HO4.out hg5)
           clear ho5 hb5 hg5))
      go_roundw
      case rel => exact ⟨k + 1, A5, c5, by omega, by go_num, rfl, Lib.hid (by rw [HS.out]; exact HO5.out), HC5, HB5⟩
      case measure => simp [intOf]; omega
    · skip
      have hkM : k = M := by omega
      subst hkM
      have hE : x.ops.take k = x.ops := List.take_of_length_le (by rw [← HM.out]; omega)
      have ho := HO.out
      rw [hE] at ho
      have HO9 := Lib.hid ho
      have hre := HR.out.below HB.out (Nat.le_refl _)
      have HS := Lib.hid x.bs_size
      have HM2 : Hid (x.ops.length = k) := Lib.hid HM.out.symm
      clear ho hE HO HIH HP2 HO2 HQ2
      have hok := HKK.out
      cases x with
      | leaf z =>
        rcases hok with rfl | ⟨d, hd, rfl⟩
        · skip
          obtain ⟨b, off, rfl, hbl, q0, q1⟩ := rdE hre (x := (0, 0)) (k := 0) rfl
          have hl0 : (0 : Int) < (n : Int) := by have := HL.out; simp [Ex.els] at this; omega
          have hl1 : 0 < n := by omega
          simp only [Nat.zero_mul, Nat.add_zero] at q0 q1
          clear hre
          go_wp2_with fail
          go_ret
          exact ⟨rfl, HB.out⟩
        · skip
          obtain ⟨b, off, rfl, hbl, q0, q1⟩ := rdE hre (x := (1, (d : Int))) (k := 0) rfl
          have hl0 : (0 : Int) < (n : Int) := by have := HL.out; simp [Ex.els] at this; omega
          have hl1 : 0 < n := by omega
          simp only [Nat.zero_mul, Nat.add_zero] at q0 q1
          have HD := Lib.hid hd
          clear hre hd
          go_wp2_with (go_at_call 104; refine (decimalV_any _ d HD.out).mono ?_; rintro e w' ⟨rfl, rfl⟩)
          go_ret
          exact ⟨by rw [bs_v]; rfl, HB.out⟩
      | un z a =>
        obtain ⟨hz, -⟩ := hok
        have hk1 : k = 1 := by have := HM2.out; simp [Ex.ops] at this; omega
        subst hk1
        rcases hz with rfl | rfl
        · skip
          obtain ⟨b, off, rfl, hbl, q0, q1⟩ := rdE hre (x := (3, 0)) (k := 0) rfl
          have hl0 : (0 : Int) < (n : Int) := by have := HL.out; simp [Ex.els] at this; omega
          have hl1 : 0 < n := by omega
          simp only [Nat.zero_mul, Nat.add_zero] at q0 q1
          obtain ⟨g, rfl, -, -, t0, -⟩ := own_get HO9.out (k := 0) (u := .string a.bs) rfl
          have hs : a.bs.size ≤ 100000 := by
            have h1 := HS.out; have h2 := HL.out; have h3 := HN.out
            simp only [bs_3, ByteArray.size_append', ByteArray.size_mk'] at h1
            simp at h1
            omega
          have hsz : ¬ (1 + a.bs.size > 9223372036854775807) := by omega
          clear hre HO9 HS
          go_wp2_with fail
          go_ret
          exact ⟨by rw [bs_3]; rfl, HB.out⟩
        · skip
          obtain ⟨b, off, rfl, hbl, q0, q1⟩ := rdE hre (x := (4, 0)) (k := 0) rfl
          have hl0 : (0 : Int) < (n : Int) := by have := HL.out; simp [Ex.els] at this; omega
          have hl1 : 0 < n := by omega
          simp only [Nat.zero_mul, Nat.add_zero] at q0 q1
          obtain ⟨g, rfl, -, -, t0, -⟩ := own_get HO9.out (k := 0) (u := .string a.bs) rfl
          have hs : a.bs.size ≤ 100000 := by
            have h1 := HS.out; have h2 := HL.out; have h3 := HN.out
            simp only [bs_4, ByteArray.size_append', ByteArray.size_mk'] at h1
            simp at h1
            omega
          have hsz : ¬ (1 + a.bs.size > 9223372036854775807) := by omega
          clear hre HO9 HS
          go_wp2_with fail
          go_ret
          exact ⟨by rw [bs_4]; rfl, HB.out⟩
      | bin z a b' =>
        obtain ⟨hz, -, -⟩ := hok
        have hk1 : k = 2 := by have := HM2.out; simp [Ex.ops] at this; omega
        subst hk1
        rcases hz with rfl | rfl
        · skip
          obtain ⟨b, off, rfl, hbl, q0, q1⟩ := rdE hre (x := (2, 0)) (k := 0) rfl
          have hl0 : (0 : Int) < (n : Int) := by have := HL.out; simp [Ex.els] at this; omega
          have hl1 : 0 < n := by omega
          simp only [Nat.zero_mul, Nat.add_zero] at q0 q1
          obtain ⟨g, rfl, -, -, t0, -⟩ := own_get HO9.out (k := 0) (u := .string a.bs) rfl
          obtain ⟨g', hg', -, -, t1, -⟩ := own_get HO9.out (k := 1) (u := .string b'.bs) rfl
          injection hg' with hg'
          injection hg' with hg'
          subst hg'
          have hs : a.bs.size ≤ 100000 ∧ b'.bs.size ≤ 100000 := by
            have h1 := HS.out; have h2 := HL.out; have h3 := HN.out
            simp only [bs_2, ByteArray.size_append', ByteArray.size_mk'] at h1
            simp at h1
            omega
          obtain ⟨hs1, hs2⟩ := hs
          clear hre HO9 HS
          go_wp2_with fail
          go_quiet (fail)
          go_wp2_with fail
          go_ret
          exact ⟨by rw [bs_2]; rfl, below_drewN HB.out⟩
        · skip
          obtain ⟨b, off, rfl, hbl, q0, q1⟩ := rdE hre (x := (5, 0)) (k := 0) rfl
          have hl0 : (0 : Int) < (n : Int) := by have := HL.out; simp [Ex.els] at this; omega
          have hl1 : 0 < n := by omega
          simp only [Nat.zero_mul, Nat.add_zero] at q0 q1
          obtain ⟨g, rfl, -, -, t0, -⟩ := own_get HO9.out (k := 0) (u := .string a.bs) rfl
          obtain ⟨g', hg', -, -, t1, -⟩ := own_get HO9.out (k := 1) (u := .string b'.bs) rfl
          injection hg' with hg'
          injection hg' with hg'
          subst hg'
          have hs : a.bs.size ≤ 100000 ∧ b'.bs.size ≤ 100000 := by
            have h1 := HS.out; have h2 := HL.out; have h3 := HN.out
            simp only [bs_5, ByteArray.size_append', ByteArray.size_mk'] at h1
            simp at h1
            omega
          obtain ⟨hs1, hs2⟩ := hs
          clear hre HO9 HS
          go_wp2_with fail
          go_quiet (fail)
          go_wp2_with fail
          go_ret
          exact ⟨by rw [bs_5]; rfl, below_drewN HB.out⟩
theorem exprTextY_any : ∀ (x : Ex), x.ok → ∀ (w : World) (A : Option Addr) (n c : Nat), RdE w A n x.els → n ≤ 1000 → n ≤ c → Calls Tryz.prog 66 #[.slice A n c] w (TxtY w x)
  | .leaf z, hx, w, A, n, c, hr, hn, hnc => exprTextY_step (.leaf z) hx (by simp [Ex.ops]) w A n c hr hn hnc
  | .un z a, hx, w, A, n, c, hr, hn, hnc => exprTextY_step (.un z a) hx (by have ha := exprTextY_any a hx.2; intro y hy; simp only [Ex.ops, List.mem_singleton] at hy; subst hy; exact ha) w A n c hr hn hnc
  | .bin z a b, hx, w, A, n, c, hr, hn, hnc => exprTextY_step (.bin z a b) hx (by
      have ha := exprTextY_any a hx.2.1
      have hb := exprTextY_any b hx.2.2
      intro y hy; simp only [Ex.ops, List.mem_cons, List.not_mem_nil, or_false] at hy; rcases hy with rfl | rfl; exact ha; exact hb) w A n c hr hn hnc
end Go.Proofs.YtadmbphefpfbmaaGreatDoor
