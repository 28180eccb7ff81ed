/- slices.Repeat on elements of expressions. Printed by mk_rp2.py. -/
import Derived.Test.YtadmbphefpfbmaaGreatDoorRpG
import Derived.Laws.CopyOwn
namespace Go.Proofs.YtadmbphefpfbmaaGreatDoor
open Go.RowKit
set_option linter.unusedVariables false
set_option linter.unusedSimpArgs false
def repE (row : List Value) (n : Nat) : List Value := (List.replicate n row).flatten
theorem repE_len {row : List Value} (hr : row.length = 2) (n : Nat) : (repE row n).length = n * 2 := by simp [repE, hr]
theorem repE_add (row : List Value) (n k : Nat) : repE row (n + k) = repE row n ++ repE row k := by unfold repE; rw [← List.replicate_append_replicate, List.flatten_append]
theorem repE_one {row : List Value} (h1 : ∀ v ∈ row, v.oneCell' = true) (n : Nat) : ∀ v ∈ repE row n, v.oneCell' = true := by
  intro v hv
  simp only [repE, List.mem_flatten, List.mem_replicate] at hv
  obtain ⟨l, ⟨_, rfl⟩, h⟩ := hv
  exact h1 v h
theorem stE_step {row rest : List Value} {n k : Nat} (hr : row.length = 2) (hk : k * 2 ≤ rest.length) : (repE row n ++ rest).take (n * 2) ++ repE row k ++ (repE row n ++ rest).drop (n * 2 + (repE row k).length) = repE row (n + k) ++ rest.drop (k * 2) := by
  have h1 : (repE row n ++ rest).take (n * 2) = repE row n := List.take_left' (repE_len hr n)
  have h2 : (repE row n ++ rest).drop (n * 2 + (repE row k).length) = rest.drop (k * 2) := by
    rw [repE_len hr, List.drop_append, List.drop_of_length_le (by rw [repE_len hr]; omega), repE_len hr, List.nil_append]
    congr 1
    omega
  rw [h1, h2, repE_add]
theorem stE_get {row rest : List Value} {n j k : Nat} {v : Value} (hk : k ≤ n) (h : (repE row k)[j]? = some v) : (repE row n ++ rest)[j]? = some v := by
  have hj : j < (repE row k).length := (List.getElem?_eq_some_iff.1 h).1
  obtain ⟨d, rfl⟩ : ∃ d, n = k + d := ⟨n - k, by omega⟩
  rw [repE_add, List.append_assoc, List.getElem?_append_left hj]
  exact h
theorem Tryz.szE2 : (Tryz.prog.info? 110).map (·.size) = some 2 := by kernel_rfl
def RpePost (w : World) (row : List Value) (N : Nat) (e : Ending) (w' : World) : Prop := ∃ (A : Option Addr) (c : Nat), e = .returned (.slice A N c) ∧ w'.ownsRow w.heap.size 110 2 (.slice A N c) N (repE row N) ∧ Below w.heap.size w w'
set_option maxHeartbeats 4000000 in
set_option maxRecDepth 100000 in
theorem repeatE_any (w : World) (gx gf cx N : Nat) (row : List Value) (hrl : row.length = 2) (hr1 : ∀ v ∈ row, v.oneCell' = true) (hr : Rd w (some ⟨gx, gf, none⟩) 2 row) (hN : N ≤ 80) :
    Calls Tryz.prog 132 #[.slice (some ⟨gx, gf, none⟩) 1 cx, .int .i64 N] w (RpePost w row N) := by
  have hneg : ¬ (N : Int) < 0 := by omega
  have hpos : ¬ (0 : Int) < 0 := by omega
  have hcv : IntKind.u64.wrap (N : Int) = (N : Int) := IntWalk.u64_in _ (by omega)
  have hci : IntKind.i64.wrap (N : Int) = (N : Int) := IntWalk.i64_in _ (by omega)
  have hmx : ¬ (9223372036854775807 : Int) < (N : Int) := by omega
  have hmxd : decide ((9223372036854775807 : Int) < (N : Int)) = false := decide_eq_false hmx
  have HRL := Lib.hid hrl; have HR1 := Lib.hid hr1
  clear hrl hr1
  obtain ⟨m, hm⟩ : ∃ m, m = Nat.min 1 N := ⟨_, rfl⟩
  have hm1 : m ≤ 1 := by rw [hm, nmin]; omega
  have hmN : m ≤ N := by rw [hm, nmin]; omega
  have hm0 : 0 < m ∨ N = 0 := by rw [hm, nmin]; omega
  have HM := Lib.hid hm; have HM0 := Lib.hid hm0
  have HCS : Hid (∀ j v, (repE row m)[j]? = some v → w.cell? ((⟨gx, gf, none⟩ : Addr).add j) = some v) := Lib.hid (fun j v hj => rdx_add hr (by
    rcases Nat.le_one_iff_eq_zero_or_eq_one.1 hm1 with e | e
    · rw [e] at hj; simp [repE] at hj
    · rw [e] at hj; simpa [repE] using hj))
  have HSZ' : Hid ((repE row m).length = m * 2) := Lib.hid (repE_len HRL.out m)
  have HRA : Hid (Rd w (some ⟨gx, gf, none⟩) 2 row) := Lib.hid hr
  clear hm hm0 hr
  go_enter Tryz.func132, Tryz.ntmps132
  go_wp2_with (first
    | (go_at_call 77; refine (mul_one' _ N (by omega)).mono ?_; rintro e w' ⟨rfl, rfl⟩)
    | (at_make
       refine wpList_mkN eltEl rfl _ _ rfl w _ _ N (by rfl) (by rfl) (by rfl) (by rfl) (by omega) ?_
       intro w1 ho1 hb1 hl1
       obtain ⟨cur, hg1, hcur⟩ := own_fullX ho1
       have hsz : cur.size = N * 2 := by have h1 := ho1.1; rw [← hcur] at h1; simpa using h1
       have HSZ := Lib.hid hsz
       have HCS1 : Hid (∀ j v, (repE row m)[j]? = some v → w1.cell? ((⟨gx, gf, none⟩ : Addr).add j) = some v) := Lib.hid (fun j v hj => by
         have h1 : m = 1 := by
           rcases Nat.le_one_iff_eq_zero_or_eq_one.1 hm1 with e | e
           · rw [e] at hj; simp [repE] at hj
           · exact e
         exact rdx_add (HRA.out.below hb1 (Nat.le_refl _)) (by rw [h1] at hj; simpa [repE] using hj))
       clear hcur hsz ho1 HCS)
    | (refine wpList_copyN rfl _ _ 42 42 110 rfl w1 w.heap.size 0 N N ⟨gx, gf, none⟩ 1 cx 2 cur 110 (repE row m) Tryz.underlying42 Tryz.szE2 (by rfl) (by rfl) hg1 m HM.out.symm HSZ'.out HCS1.out (by rw [HSZ.out, HSZ'.out]; omega) (repE_one HR1.out m) ?_
       intro w2 hg2 hc2))
  obtain ⟨rest, hrest, hG2⟩ : ∃ rest : List Value, rest.length = (N - m) * 2 ∧ w2.heap[w.heap.size]? = some (.cells (repE row m ++ rest).toArray 110 (0, 0)) := by
    refine ⟨cur.toList.drop (0 + (repE row m).length), ?_, ?_⟩
    · rw [List.length_drop, HSZ'.out]; have := HSZ.out; simp only [Array.length_toList]; omega
    · rw [hg2]; simp
  have hB2 := below_ch hb1 hc2 (fun k h => by omega) hb1.size
  have HB2 := Lib.hid hB2; have HG2 := Lib.hid hG2; have HRS := Lib.hid hrest
  clear hg2 hc2 hG2 hB2 hg1 hb1 hrest
  go_wp2_with fail
  go_loopw [8] (fun q wr => ∃ (n : Nat) (rest : List Value), Hid (0 < n ∨ N = 0) ∧ n ≤ N ∧ q = .int .i64 n ∧ Hid (rest.length = (N - n) * 2) ∧ Hid (wr.heap[w.heap.size]? = some (.cells (repE row n ++ rest).toArray 110 (0, 0))) ∧ Below w.heap.size w wr) (fun q _ => N - (intOf q).toNat)
  case atStart => exact ⟨m, rest, HM0, hmN, rfl, HRS, HG2, HB2.out⟩
  case round =>
    clear HRS HG2 HB2 HM0 HM HSZ' HCS1 HSZ hm1 hmN
    obtain ⟨n, rest, HN1, hnN, rfl, HRS, HG, hb⟩ := hrel
    by_cases h : n < N
    · have hlt : (n : Int) < (N : Int) := by omega
      obtain ⟨k, hk⟩ : ∃ k, k = Nat.min n (N - n) := ⟨_, rfl⟩
      have hkn : k ≤ n := by rw [hk, nmin]; omega
      have hk1 : 1 ≤ k := by have := HN1.out; rw [hk, nmin]; omega
      have hkN : n + k ≤ N := by rw [hk, nmin]; omega
      have HK := Lib.hid hk; clear hk
      have hs1 := fun (w0 : World) => run_cut Tryz.underlying42 Tryz.szE2 w0 w.heap.size 0 N N n (n : Int) .i64 rfl (by omega) h
      have hs2 := fun (w0 : World) => run_cutTo Tryz.underlying42 Tryz.szE2 w0 (some ⟨w.heap.size, 0, none⟩) N N n (n : Int) .i64 rfl (by omega)
      simp only [Nat.zero_add] at hs1
      have hwk : IntKind.i64.wrap ((n : Int) + (k : Int)) = (n : Int) + (k : Int) := IntWalk.i64_in _ (by omega)
      have HBB := Lib.hid hb
      have HSRC : Hid (∀ j v, (repE row k)[j]? = some v → wr.cell? ((⟨w.heap.size, 0, none⟩ : Addr).add j) = some v) := Lib.hid (fun j v hj => by
        rw [add_plain', Nat.zero_add]
        exact blk_cell HG.out j (by have := stE_get (rest := rest) hkn hj; simpa using this))
      have HLEN : Hid ((repE row k).length = k * 2) := Lib.hid (repE_len HRL.out k)
      have HFIT : Hid (n * 2 + (repE row k).length ≤ (repE row n ++ rest).toArray.size) := Lib.hid (by have := HRS.out; simp only [List.size_toArray, List.length_append, repE_len HRL.out]; omega)
      go_wp2_with fail
      (first | (go_region_law (first
        | (refine step_copyN (by rfl) _ _ 42 42 110 (by rfl) _ w.heap.size (n * 2) (N - n) (N - n) ⟨w.heap.size, 0, none⟩ n N 2 (repE row n ++ rest).toArray 110 (repE row k) Tryz.underlying42 Tryz.szE2 (by rfl) (by rfl) (by exact HG.out) k HK.out.symm HLEN.out (by exact HSRC.out) HFIT.out (repE_one HR1.out k) ?_
           intro w3 hg3 hc3
           have HG3 := Lib.hid hg3; clear hg3))) | fail)
      all_goals
        clear hwk
        go_wp2_with fail
        go_roundw
        case rel => exact ⟨n + k, Lib.hid (.inl (by omega)), by omega, by go_num, rest.drop (k * 2), Lib.hid (by have := HRS.out; rw [List.length_drop]; omega), Lib.hid (by rw [HG3.out]; have h5 := stE_step (row := row) (rest := rest) (n := n) (k := k) HRL.out (by have := HRS.out; omega); rw [← h5]), below_ch HBB.out (ch_und2 hc3) (fun z hz => by omega) HBB.out.size⟩
        case measure => simp [intOf]; omega
    · obtain rfl : n = N := by omega
      go_wp2_with fail
      go_ret
      have hr0 : rest = [] := by have := HRS.out; simpa using this
      have hg := HG.out
      rw [hr0, List.append_nil] at hg
      refine ⟨_, n, rfl, ⟨by rw [repE_len HRL.out], .inr ⟨w.heap.size, n, _, rfl, Nat.le_refl _, hg, Nat.le_refl _, by unfold maxLen; omega, by simp [repE_len HRL.out], ?_⟩⟩, hb⟩
      simp
      exact List.take_of_length_le (by rw [repE_len HRL.out]; omega)
end Go.Proofs.YtadmbphefpfbmaaGreatDoor
