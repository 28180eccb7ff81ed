/- slices.Repeat on commands. Printed by mk_rp2.py. -/
import Derived.Test.YtadmbphefpfbmaaGreatDoorRpG
import Derived.Laws.CopyOwn
namespace Go.Proofs.YtadmbphefpfbmaaGreatDoor
open Go.RowKit
set_option linter.unusedVariables false
set_option linter.unusedSimpArgs false
def repX (row : List Value) (n : Nat) : List Value := (List.replicate n row).flatten
theorem repX_len {row : List Value} (hr : row.length = 4) (n : Nat) : (repX row n).length = n * 4 := by simp [repX, hr]
theorem repX_add (row : List Value) (n k : Nat) : repX row (n + k) = repX row n ++ repX row k := by unfold repX; rw [← List.replicate_append_replicate, List.flatten_append]
theorem repX_one {row : List Value} (h1 : ∀ v ∈ row, v.oneCell' = true) (n : Nat) : ∀ v ∈ repX row n, v.oneCell' = true := by
  intro v hv
  simp only [repX, List.mem_flatten, List.mem_replicate] at hv
  obtain ⟨l, ⟨_, rfl⟩, h⟩ := hv
  exact h1 v h
theorem stX_step {row rest : List Value} {n k : Nat} (hr : row.length = 4) (hk : k * 4 ≤ rest.length) : (repX row n ++ rest).take (n * 4) ++ repX row k ++ (repX row n ++ rest).drop (n * 4 + (repX row k).length) = repX row (n + k) ++ rest.drop (k * 4) := by
  have h1 : (repX row n ++ rest).take (n * 4) = repX row n := List.take_left' (repX_len hr n)
  have h2 : (repX row n ++ rest).drop (n * 4 + (repX row k).length) = rest.drop (k * 4) := by
    rw [repX_len hr, List.drop_append, List.drop_of_length_le (by rw [repX_len hr]; omega), repX_len hr, List.nil_append]
    congr 1
    omega
  rw [h1, h2, repX_add]
theorem stX_get {row rest : List Value} {n j k : Nat} {v : Value} (hk : k ≤ n) (h : (repX row k)[j]? = some v) : (repX row n ++ rest)[j]? = some v := by
  have hj : j < (repX row k).length := (List.getElem?_eq_some_iff.1 h).1
  obtain ⟨d, rfl⟩ : ∃ d, n = k + d := ⟨n - k, by omega⟩
  rw [repX_add, List.append_assoc, List.getElem?_append_left hj]
  exact h
theorem Tryz.szC : (Tryz.prog.info? 44).map (·.size) = some 4 := by kernel_rfl
def RpcPost (w : World) (row : List Value) (N : Nat) (e : Ending) (w' : World) : Prop := ∃ (A : Option Addr) (c : Nat), e = .returned (.slice A N c) ∧ w'.ownsRow w.heap.size 44 4 (.slice A N c) N (repX row N) ∧ Below w.heap.size w w'
set_option maxHeartbeats 4000000 in
set_option maxRecDepth 100000 in
theorem repeatC_any (w : World) (gx gf cx N : Nat) (row : List Value) (hrl : row.length = 4) (hr1 : ∀ v ∈ row, v.oneCell' = true) (hr : Rd w (some ⟨gx, gf, none⟩) 4 row) (hN : N ≤ 80) :
    Calls Tryz.prog 48 #[.slice (some ⟨gx, gf, none⟩) 1 cx, .int .i64 N] w (RpcPost w row N) := by
  have hneg : ¬ (N : Int) < 0 := by omega
  have hpos : ¬ (0 : Int) < 0 := by omega
  have hcv : IntKind.u64.wrap (N : Int) = (N : Int) := IntWalk.u64_in _ (by omega)
  have hci : IntKind.i64.wrap (N : Int) = (N : Int) := IntWalk.i64_in _ (by omega)
  have hmx : ¬ (9223372036854775807 : Int) < (N : Int) := by omega
  have hmxd : decide ((9223372036854775807 : Int) < (N : Int)) = false := decide_eq_false hmx
  have HRL := Lib.hid hrl; have HR1 := Lib.hid hr1
  clear hrl hr1
  obtain ⟨m, hm⟩ : ∃ m, m = Nat.min 1 N := ⟨_, rfl⟩
  have hm1 : m ≤ 1 := by rw [hm, nmin]; omega
  have hmN : m ≤ N := by rw [hm, nmin]; omega
  have hm0 : 0 < m ∨ N = 0 := by rw [hm, nmin]; omega
  have HM := Lib.hid hm; have HM0 := Lib.hid hm0
  have HCS : Hid (∀ j v, (repX row m)[j]? = some v → w.cell? ((⟨gx, gf, none⟩ : Addr).add j) = some v) := Lib.hid (fun j v hj => rdx_add hr (by
    rcases Nat.le_one_iff_eq_zero_or_eq_one.1 hm1 with e | e
    · rw [e] at hj; simp [repX] at hj
    · rw [e] at hj; simpa [repX] using hj))
  have HSZ' : Hid ((repX row m).length = m * 4) := Lib.hid (repX_len HRL.out m)
  have HRA : Hid (Rd w (some ⟨gx, gf, none⟩) 4 row) := Lib.hid hr
  clear hm hm0 hr
  go_enter Tryz.func48, Tryz.ntmps48
  go_wp2_with (first
    | (go_at_call 77; refine (mul_one' _ N (by omega)).mono ?_; rintro e w' ⟨rfl, rfl⟩)
    | (at_make
       refine wpList_mkN eltCm rfl _ _ rfl w _ _ N (by rfl) (by rfl) (by rfl) (by rfl) (by omega) ?_
       intro w1 ho1 hb1 hl1
       obtain ⟨cur, hg1, hcur⟩ := own_fullX ho1
       have hsz : cur.size = N * 4 := by have h1 := ho1.1; rw [← hcur] at h1; simpa using h1
       have HSZ := Lib.hid hsz
       have HCS1 : Hid (∀ j v, (repX row m)[j]? = some v → w1.cell? ((⟨gx, gf, none⟩ : Addr).add j) = some v) := Lib.hid (fun j v hj => by
         have h1 : m = 1 := by
           rcases Nat.le_one_iff_eq_zero_or_eq_one.1 hm1 with e | e
           · rw [e] at hj; simp [repX] at hj
           · exact e
         exact rdx_add (HRA.out.below hb1 (Nat.le_refl _)) (by rw [h1] at hj; simpa [repX] using hj))
       clear hcur hsz ho1 HCS)
    | (refine wpList_copyN rfl _ _ 28 28 44 rfl w1 w.heap.size 0 N N ⟨gx, gf, none⟩ 1 cx 4 cur 44 (repX row m) Tryz.underlying28 Tryz.szC (by rfl) (by rfl) hg1 m HM.out.symm HSZ'.out HCS1.out (by rw [HSZ.out, HSZ'.out]; omega) (repX_one HR1.out m) ?_
       intro w2 hg2 hc2))
  obtain ⟨rest, hrest, hG2⟩ : ∃ rest : List Value, rest.length = (N - m) * 4 ∧ w2.heap[w.heap.size]? = some (.cells (repX row m ++ rest).toArray 44 (0, 0)) := by
    refine ⟨cur.toList.drop (0 + (repX row m).length), ?_, ?_⟩
    · rw [List.length_drop, HSZ'.out]; have := HSZ.out; simp only [Array.length_toList]; omega
    · rw [hg2]; simp
  have hB2 := below_ch hb1 hc2 (fun k h => by omega) hb1.size
  have HB2 := Lib.hid hB2; have HG2 := Lib.hid hG2; have HRS := Lib.hid hrest
  clear hg2 hc2 hG2 hB2 hg1 hb1 hrest
  go_wp2_with fail
  go_loopw [8] (fun q wr => ∃ (n : Nat) (rest : List Value), Hid (0 < n ∨ N = 0) ∧ n ≤ N ∧ q = .int .i64 n ∧ Hid (rest.length = (N - n) * 4) ∧ Hid (wr.heap[w.heap.size]? = some (.cells (repX row n ++ rest).toArray 44 (0, 0))) ∧ Below w.heap.size w wr) (fun q _ => N - (intOf q).toNat)
  case atStart => exact ⟨m, rest, HM0, hmN, rfl, HRS, HG2, HB2.out⟩
  case round =>
    clear HRS HG2 HB2 HM0 HM HSZ' HCS1 HSZ hm1 hmN
    obtain ⟨n, rest, HN1, hnN, rfl, HRS, HG, hb⟩ := hrel
    by_cases h : n < N
    · have hlt : (n : Int) < (N : Int) := by omega
      obtain ⟨k, hk⟩ : ∃ k, k = Nat.min n (N - n) := ⟨_, rfl⟩
      have hkn : k ≤ n := by rw [hk, nmin]; omega
      have hk1 : 1 ≤ k := by have := HN1.out; rw [hk, nmin]; omega
      have hkN : n + k ≤ N := by rw [hk, nmin]; omega
      have HK := Lib.hid hk; clear hk
      have hs1 := fun (w0 : World) => run_cut Tryz.underlying28 Tryz.szC w0 w.heap.size 0 N N n (n : Int) .i64 rfl (by omega) h
      have hs2 := fun (w0 : World) => run_cutTo Tryz.underlying28 Tryz.szC w0 (some ⟨w.heap.size, 0, none⟩) N N n (n : Int) .i64 rfl (by omega)
      simp only [Nat.zero_add] at hs1
      have hwk : IntKind.i64.wrap ((n : Int) + (k : Int)) = (n : Int) + (k : Int) := IntWalk.i64_in _ (by omega)
      have HBB := Lib.hid hb
      have HSRC : Hid (∀ j v, (repX row k)[j]? = some v → wr.cell? ((⟨w.heap.size, 0, none⟩ : Addr).add j) = some v) := Lib.hid (fun j v hj => by
        rw [add_plain', Nat.zero_add]
        exact blk_cell HG.out j (by have := stX_get (rest := rest) hkn hj; simpa using this))
      have HLEN : Hid ((repX row k).length = k * 4) := Lib.hid (repX_len HRL.out k)
      have HFIT : Hid (n * 4 + (repX row k).length ≤ (repX row n ++ rest).toArray.size) := Lib.hid (by have := HRS.out; simp only [List.size_toArray, List.length_append, repX_len HRL.out]; omega)
      go_wp2_with fail
      (first | (go_region_law (first
        | (refine step_copyN (by rfl) _ _ 28 28 44 (by rfl) _ w.heap.size (n * 4) (N - n) (N - n) ⟨w.heap.size, 0, none⟩ n N 4 (repX row n ++ rest).toArray 44 (repX row k) Tryz.underlying28 Tryz.szC (by rfl) (by rfl) (by exact HG.out) k HK.out.symm HLEN.out (by exact HSRC.out) HFIT.out (repX_one HR1.out k) ?_
           intro w3 hg3 hc3
           have HG3 := Lib.hid hg3; clear hg3))) | fail)
      all_goals
        clear hwk
        go_wp2_with fail
        go_roundw
        case rel => exact ⟨n + k, Lib.hid (.inl (by omega)), by omega, by go_num, rest.drop (k * 4), Lib.hid (by have := HRS.out; rw [List.length_drop]; omega), Lib.hid (by rw [HG3.out]; have h5 := stX_step (row := row) (rest := rest) (n := n) (k := k) HRL.out (by have := HRS.out; omega); rw [← h5]), below_ch HBB.out (ch_und2 hc3) (fun z hz => by omega) HBB.out.size⟩
        case measure => simp [intOf]; omega
    · obtain rfl : n = N := by omega
      go_wp2_with fail
      go_ret
      have hr0 : rest = [] := by have := HRS.out; simpa using this
      have hg := HG.out
      rw [hr0, List.append_nil] at hg
      refine ⟨_, n, rfl, ⟨by rw [repX_len HRL.out], .inr ⟨w.heap.size, n, _, rfl, Nat.le_refl _, hg, Nat.le_refl _, by unfold maxLen; omega, by simp [repX_len HRL.out], ?_⟩⟩, hb⟩
      simp
      exact List.take_of_length_le (by rw [repX_len HRL.out]; omega)
end Go.Proofs.YtadmbphefpfbmaaGreatDoor
