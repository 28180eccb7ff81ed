/- slices.Repeat of one number; statedAll. -/
import Derived.Test.YtanicbbgneobpaaGreatRep
import Derived.Test.YtanicbbgneobpaaGreatCkJ
namespace Go.Proofs.YtanicbbgneobpaaGreat
open Go.RowKit
set_option linter.unusedVariables false
set_option linter.unusedSimpArgs false
def stI (x : Int) (n N : Nat) : List Value := List.replicate n (.int .i64 x) ++ List.replicate (N - n) (.int .i64 0)
theorem stI_len {x : Int} {n N : Nat} (h : n ≤ N) : (stI x n N).length = N := by simp only [stI, List.length_append, List.length_replicate]; omega
theorem stI_step {x : Int} {n k N : Nat} (h : n + k ≤ N) : (stI x n N).take n ++ List.replicate k (.int .i64 x) ++ (stI x n N).drop (n + (List.replicate k (Value.int .i64 x)).length) = stI x (n + k) N := by
  have h1 : (stI x n N).take n = List.replicate n (.int .i64 x) := by rw [stI, List.take_left' (by simp)]
  have h2 : (stI x n N).drop (n + (List.replicate k (Value.int .i64 x)).length) = List.replicate (N - (n + k)) (.int .i64 0) := by
    rw [stI, List.length_replicate, List.drop_append, List.drop_of_length_le (by simp), List.length_replicate, List.drop_replicate, List.nil_append]
    congr 1
    omega
  rw [h1, h2, stI, List.replicate_append_replicate]
theorem stI_get {x : Int} {n N j : Nat} {v : Value} {k : Nat} (hk : k ≤ n) (h : (List.replicate k (Value.int .i64 x))[j]? = some v) : (stI x n N)[j]? = some v := by
  have hj : j < k := by have := (List.getElem?_eq_some_iff.1 h).1; simpa using this
  rw [stI, List.getElem?_append_left (by simp; omega)]
  rw [List.getElem?_replicate, if_pos hj] at h
  rw [List.getElem?_replicate, if_pos (by omega)]
  exact h
theorem rep1_one (x : Int) (k : Nat) : ∀ v ∈ List.replicate k (Value.int .i64 x), v.oneCell' = true := by
  intro v hv
  rw [List.mem_replicate] at hv
  rw [hv.2]; rfl
theorem eltI1 : EltN Tryz.prog 25 2 (.int .i64 0) 1 := by
  obtain ⟨h1, h2, i, hi, hz, hs, hb⟩ := Tryz.eltI
  exact ⟨h1, by rw [h2]; rfl, by omega, i, hi, hz, hs, by omega⟩
def RpPost (w : World) (x : Int) (N : Nat) (e : Ending) (w' : World) : Prop := ∃ (A : Option Addr) (c : Nat), e = .returned (.slice A N c) ∧ w'.ownsRow w.heap.size 2 1 (.slice A N c) N (ints (List.replicate N x)) ∧ Below w.heap.size w w'
set_option maxHeartbeats 4000000 in
set_option maxRecDepth 100000 in
theorem repeatI_any (w : World) (gx cx N : Nat) (x : Int) (hr : Rd w (some ⟨gx, 0, none⟩) 1 [.int .i64 x]) (hN : N ≤ 36) :
    Calls Tryz.prog 146 #[.slice (some ⟨gx, 0, none⟩) 1 cx, .int .i64 N] w (RpPost w x N) := by
  have hneg : ¬ (N : Int) < 0 := by omega
  have hcv : IntKind.u64.wrap (N : Int) = (N : Int) := IntWalk.u64_in _ (by omega)
  have hci : IntKind.i64.wrap (N : Int) = (N : Int) := IntWalk.i64_in _ (by omega)
  have hmx : ¬ (9223372036854775807 : Int) < (N : Int) := by omega
  have hmxd : decide ((9223372036854775807 : Int) < (N : Int)) = false := decide_eq_false hmx
  obtain ⟨m0, hm0⟩ : ∃ m0, m0 = Nat.min 1 N := ⟨_, rfl⟩
  have hmN : m0 ≤ N ∧ m0 ≤ 1 := by rw [hm0, nmin]; omega
  have hmz : N ≠ 0 → m0 = 1 := fun h => by rw [hm0, nmin]; omega
  have HM0 := Lib.hid hm0; have HMZ := Lib.hid hmz
  have HSR0 : Hid (∀ j v, (List.replicate m0 (Value.int .i64 x))[j]? = some v → ∀ w', Below w.heap.size w w' → w'.cell? ((⟨gx, 0, none⟩ : Addr).add j) = some v) := Lib.hid (fun j v hj w' hb => by
    refine rd_add (hr.below hb (Nat.le_refl _)) ?_
    have h1 := (List.getElem?_eq_some_iff.1 hj).1
    simp only [List.length_replicate] at h1
    obtain rfl : j = 0 := by omega
    rw [List.getElem?_replicate, if_pos (by omega)] at hj
    simpa using hj)
  clear hm0 hmz
  go_enter Tryz.func146, Tryz.ntmps146
  go_wp2_with (first
    | (go_at_call 153; refine (mul_one' _ N (by omega)).mono ?_; rintro e w' ⟨rfl, rfl⟩)
    | (at_make
       refine wpList_mkN eltI1 rfl _ _ rfl w _ _ N (by rfl) (by rfl) (by rfl) (by rfl) (by omega) ?_
       intro w1 ho1 hb1 hl1
       obtain ⟨cur, hg1, hcur⟩ := own_full ho1
       have hcur2 : cur.toList = stI x 0 N := by
         rw [hcur]
         have h5 := made_same (.int .i64 0) 1 (N * 1) (by omega)
         rw [Nat.mul_one] at h5 ⊢
         simp only [stI, List.replicate_zero, List.nil_append, Nat.sub_zero]
         exact h5
       have hsz : cur.size = N := by have := congrArg List.length hcur2; rw [stI_len (Nat.zero_le _)] at this; simpa using this
       have HCU := Lib.hid hcur2; have HSZ := Lib.hid hsz
       clear hcur hcur2 hsz ho1)
    | (refine wpList_copyN rfl _ _ 25 25 2 rfl w1 w.heap.size 0 N N ⟨gx, 0, none⟩ 1 cx 1 cur 2 (List.replicate m0 (.int .i64 x)) Tryz.underlying25 Tryz.szI (by rfl) (by rfl) hg1 m0 HM0.out.symm (by simp) (by intro j v hj; exact HSR0.out j v hj w1 hb1) (by rw [HSZ.out]; simp; omega) (rep1_one x m0) ?_
       intro w2 hg2 hc2))
  have hG2 : w2.heap[w.heap.size]? = some (.cells (stI x m0 N).toArray 2 (0, 0)) := by
    rw [hg2, HCU.out]
    have := stI_step (x := x) (n := 0) (k := m0) (N := N) (by omega)
    simp only [Nat.zero_add] at this
    rw [Nat.zero_add, this]
  have hB2 := below_ch hb1 hc2 (fun k h => by omega) hb1.size
  have HB2 := Lib.hid hB2; have HG2 := Lib.hid hG2
  clear hg2 hc2 hG2 hB2 hg1 hb1
  go_wp2_with fail
  go_loopw [8] (fun q wr => ∃ n : Nat, n ≤ N ∧ Hid (N ≠ 0 → 1 ≤ n) ∧ q = .int .i64 n ∧ wr.heap[w.heap.size]? = some (.cells (stI x n N).toArray 2 (0, 0)) ∧ Below w.heap.size w wr) (fun q _ => N - (intOf q).toNat)
  case atStart => exact ⟨m0, hmN.1, Lib.hid (fun h => by rw [HMZ.out h]; omega), rfl, HG2.out, HB2.out⟩
  case round =>
    obtain ⟨n, hnN, HN1, rfl, hg, hb⟩ := hrel
    by_cases h : n < N
    · have hlt : (n : Int) < (N : Int) := by omega
      have hn1 : 1 ≤ n := HN1.out (by omega)
      obtain ⟨k, hk⟩ : ∃ k, k = Nat.min n (N - n) := ⟨_, rfl⟩
      have hkn : k ≤ n := by rw [hk, nmin]; omega
      have hk1 : 1 ≤ k := by rw [hk, nmin]; omega
      have hkN : n + k ≤ N := by rw [hk, nmin]; omega
      have HK := Lib.hid hk; clear hk
      have hs1 := fun (w0 : World) => run_cut Tryz.underlying25 Tryz.szI w0 w.heap.size 0 N N n (n : Int) .i64 rfl (by omega) h
      have hs2 := fun (w0 : World) => run_cutTo Tryz.underlying25 Tryz.szI w0 (some ⟨w.heap.size, 0, none⟩) N N n (n : Int) .i64 rfl (by omega)
      simp only [Nat.zero_add, Nat.mul_one] at hs1
      have hwk : IntKind.i64.wrap ((n : Int) + (k : Int)) = (n : Int) + (k : Int) := IntWalk.i64_in _ (by omega)
      have HBB := Lib.hid hb
      have HSRC : Hid (∀ j v, (List.replicate k (Value.int .i64 x))[j]? = some v → wr.cell? ((⟨w.heap.size, 0, none⟩ : Addr).add j) = some v) := Lib.hid (fun j v hj => by
        rw [add_plain', Nat.zero_add]
        exact blk_cell hg j (by have := stI_get (N := N) hkn hj; simpa using this))
      have HFIT : Hid (n + (List.replicate k (Value.int .i64 x)).length ≤ (stI x n N).toArray.size) := Lib.hid (by rw [List.size_toArray, stI_len hnN, List.length_replicate]; exact hkN)
      have HONE := Lib.hid (rep1_one x k)
      have HLEN : Hid ((List.replicate k (Value.int .i64 x)).length = k * 1) := Lib.hid (by simp)
      go_wp2_with fail
      (first | (go_region_law (first
        | (refine step_copyN (by rfl) _ _ 25 25 2 (by rfl) _ w.heap.size n (N - n) (N - n) ⟨w.heap.size, 0, none⟩ n N 1 (stI x n N).toArray 2 (List.replicate k (.int .i64 x)) Tryz.underlying25 Tryz.szI (by go_simp) (by go_simp) (by exact hg) k HK.out.symm HLEN.out (by exact HSRC.out) (by exact HFIT.out) (by exact HONE.out) ?_
           intro w3 hg3 hc3
           have HG3 := Lib.hid hg3; clear hg3))) | fail)
      all_goals
        clear hwk
        go_wp2_with fail
        go_roundw
        case rel => exact ⟨n + k, by omega, Lib.hid (fun _ => by omega), by go_num, by rw [HG3.out]; have h5 := stI_step (x := x) (n := n) (k := k) (N := N) hkN; rw [← h5], below_ch HBB.out (ch_und2 hc3) (fun z hz => by omega) HBB.out.size⟩
        case measure => simp [intOf]; omega
    · obtain rfl : n = N := by omega
      go_wp2_with fail
      go_ret
      refine ⟨_, n, rfl, ⟨by simp, .inr ⟨w.heap.size, n, _, rfl, Nat.le_refl _, hg, Nat.le_refl _, by unfold maxLen; omega, by simp [stI_len (Nat.le_refl n)], ?_⟩⟩, hb⟩
      simp [stI]
set_option maxHeartbeats 1000000 in
theorem statedAll_any (w : World) (st : Int) (A : Option Addr) (n c : Nat) (xss : List (List Int)) (hr : RdL w A n xss) (hn : n ≤ 36) (hs : ∀ xs ∈ xss, xs.length ≤ 100000) :
    Calls Tryz.prog 127 #[.int .i64 st, .slice A n c] w (RetP w (stated (List.replicate n st) xss)) := by
  obtain ⟨w0, hw0⟩ : ∃ w0, w0 = w.alloc (.cells #[.int .i64 st] 2) := ⟨_, rfl⟩
  have hB : Below w.heap.size w w0 := by rw [hw0]; exact below_new _ _
  have HR1 : Hid (Rd w0 (some ⟨w.heap.size, 0, none⟩) 1 [.int .i64 st]) := Lib.hid (by rw [hw0]; exact own_rd (own_lit w #[.int .i64 st] 1 2 rfl (by omega)))
  have HR := Lib.hid (hr.below hB (Nat.le_refl _)); have HB := Lib.hid hB; have HS := Lib.hid hs
  clear hr hs hB
  go_enter Tryz.func127, Tryz.ntmps127
  go_wp2_with fail
  rw [← hw0]
  clear hw0
  refine (repeatI_any w0 w.heap.size 1 n st HR1.out hn).mono ?_
  rintro e w1 ⟨A1, c1, rfl, ho1, hb1⟩
  have HO1 := Lib.hid ho1; have HB1 := Lib.hid (HB.out.trans (hb1.mono HB.out.size)); have HRb := Lib.hid (HR.out.below hb1 (Nat.le_refl _))
  clear ho1 hb1
  go_wp2_with fail
  refine (stated_any w1 A1 n c1 (List.replicate n st) (own_rd HO1.out) (ownN_cap HO1.out) A c xss HRb.out (by omega) HS.out).mono ?_
  rintro e w2 ⟨A2, n2, c2, F2, rfl, ho2, hf2, hb2⟩
  go_wp2_with fail
  go_ret
  exact ⟨A2, n2, c2, F2, rfl, ho2, fun k hk => ⟨Nat.le_trans HB1.out.size (hf2 k hk).1, (hf2 k hk).2⟩, HB1.out.trans (hb2.mono HB1.out.size)⟩
end Go.Proofs.YtanicbbgneobpaaGreat
