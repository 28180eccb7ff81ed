/- The universal program: strings.Replacer's trie: the three keys. Printed by mk_uvu.py. -/
import Derived.Test.YtadmbphefpfbmaaGreatDoorUvT
namespace Go.Proofs.YtadmbphefpfbmaaGreatDoor
open Go.RowKit
set_option linter.unusedVariables false
set_option linter.unusedSimpArgs false
attribute [local go_sem ↓] Go.wp_at_zero Go.wp_at_succ
theorem lit_ne (x : UInt8) (r : List UInt8) : (ByteArray.mk (x :: r).toArray).toList.isEmpty = false := by simp
set_option maxRecDepth 100000 in
set_option maxHeartbeats 8000000 in
theorem addDownA_any (w : World) (nb r T K : Nat) (v : ByteArray) (p : Int) (Q : World → Prop) (x2 : w.cell? ⟨nb, 2, none⟩ = some (.string ⟨#[]⟩)) (x4 : w.cell? ⟨nb, 4, none⟩ = some (.slice (some ⟨T, 0, none⟩) 4 4)) (xm : w.cell? ⟨r, 90, none⟩ = some (.int .u8 3)) (xt : w.cell? ⟨T, 3, none⟩ = some (.pointer (some ⟨K, 0, none⟩)))
    (HC : Hid (∀ n, Calls Tryz.prog 186 #[ptr K, .string ⟨#[49, 48]⟩, .string v, .int .i64 p, ptr r] (w.drewN n) fun e w' => e = .returned (.tuple #[]) ∧ Q w')) :
    Calls Tryz.prog 186 #[ptr nb, .string ⟨#[84, 49, 48]⟩, .string v, .int .i64 p, ptr r] w fun e w' => e = .returned (.tuple #[]) ∧ Q w' := by
  have hk : ({ data := #[84, 49, 48] } : ByteArray).toList.isEmpty = false := by simp
  have hno : ({ data := #[] } : ByteArray).toList.isEmpty = true := by simp
  have e1 : ((({ data := #[84, 49, 48] } : ByteArray)[0]'(by decide)).toNat : Int) = 84 := rfl
  have ex : ({ data := #[84, 49, 48] } : ByteArray).extract 1 3 = { data := #[49, 48] } := by kernel_rfl
  go_enter Tryz.func186, Tryz.ntmps186
  go_upto_region 28 with fail
  go_quiet (fail)
  obtain ⟨w0, hw0⟩ : ∃ w0, w0 = w.drewN nq := ⟨_, rfl⟩
  have y4 : w0.cell? ⟨nb, 4, none⟩ = some (.slice (some ⟨T, 0, none⟩) 4 4) := by rw [hw0]; exact x4
  have yt : w0.cell? ⟨T, 3, none⟩ = some (.pointer (some ⟨K, 0, none⟩)) := by rw [hw0]; exact xt
  have HC1 := Lib.hid (HC.out (nq + 1))
  rw [← hw0]
  have HE : Hid (w.drewN (nq + 1) = w0.drew) := Lib.hid (by rw [hw0]; rfl)
  rw [HE.out] at HC1
  clear hw0 x2 x4 xt xm HC HE
  go_upto_region 31 with fail
  go_still_tail 12, (by kernel_rfl)
  change wpList _ _ _ _ _ w0.drew
  go_wp2_with (go_at_call 186
               refine HC1.out.mono ?_
               rintro e w7 ⟨rfl, hq⟩
               have HQ := Lib.hid hq
               clear hq)
  go_end0
  exact ⟨rfl, HQ.out⟩
set_option maxRecDepth 100000 in
set_option maxHeartbeats 8000000 in
theorem addDownB_any (w : World) (nb r T K : Nat) (v : ByteArray) (p : Int) (Q : World → Prop) (x2 : w.cell? ⟨nb, 2, none⟩ = some (.string ⟨#[]⟩)) (x4 : w.cell? ⟨nb, 4, none⟩ = some (.slice (some ⟨T, 0, none⟩) 4 4)) (xm : w.cell? ⟨r, 90, none⟩ = some (.int .u8 3)) (xt : w.cell? ⟨T, 3, none⟩ = some (.pointer (some ⟨K, 0, none⟩)))
    (HC : Hid (∀ n, Calls Tryz.prog 186 #[ptr K, .string ⟨#[49, 49]⟩, .string v, .int .i64 p, ptr r] (w.drewN n) fun e w' => e = .returned (.tuple #[]) ∧ Q w')) :
    Calls Tryz.prog 186 #[ptr nb, .string ⟨#[84, 49, 49]⟩, .string v, .int .i64 p, ptr r] w fun e w' => e = .returned (.tuple #[]) ∧ Q w' := by
  have hk : ({ data := #[84, 49, 49] } : ByteArray).toList.isEmpty = false := by simp
  have hno : ({ data := #[] } : ByteArray).toList.isEmpty = true := by simp
  have e1 : ((({ data := #[84, 49, 49] } : ByteArray)[0]'(by decide)).toNat : Int) = 84 := rfl
  have ex : ({ data := #[84, 49, 49] } : ByteArray).extract 1 3 = { data := #[49, 49] } := by kernel_rfl
  go_enter Tryz.func186, Tryz.ntmps186
  go_upto_region 28 with fail
  go_quiet (fail)
  obtain ⟨w0, hw0⟩ : ∃ w0, w0 = w.drewN nq := ⟨_, rfl⟩
  have y4 : w0.cell? ⟨nb, 4, none⟩ = some (.slice (some ⟨T, 0, none⟩) 4 4) := by rw [hw0]; exact x4
  have yt : w0.cell? ⟨T, 3, none⟩ = some (.pointer (some ⟨K, 0, none⟩)) := by rw [hw0]; exact xt
  have HC1 := Lib.hid (HC.out (nq + 1))
  rw [← hw0]
  have HE : Hid (w.drewN (nq + 1) = w0.drew) := Lib.hid (by rw [hw0]; rfl)
  rw [HE.out] at HC1
  clear hw0 x2 x4 xt xm HC HE
  go_upto_region 31 with fail
  go_still_tail 12, (by kernel_rfl)
  change wpList _ _ _ _ _ w0.drew
  go_wp2_with (go_at_call 186
               refine HC1.out.mono ?_
               rintro e w7 ⟨rfl, hq⟩
               have HQ := Lib.hid hq
               clear hq)
  go_end0
  exact ⟨rfl, HQ.out⟩
set_option maxRecDepth 100000 in
set_option maxHeartbeats 8000000 in
theorem addDownC_any (w : World) (nb r T K : Nat) (v : ByteArray) (p : Int) (Q : World → Prop) (x2 : w.cell? ⟨nb, 2, none⟩ = some (.string ⟨#[]⟩)) (x4 : w.cell? ⟨nb, 4, none⟩ = some (.slice (some ⟨T, 0, none⟩) 4 4)) (xm : w.cell? ⟨r, 55, none⟩ = some (.int .u8 1)) (xt : w.cell? ⟨T, 1, none⟩ = some (.pointer (some ⟨K, 0, none⟩)))
    (HC : Hid (∀ n, Calls Tryz.prog 186 #[ptr K, .string ⟨#[49]⟩, .string v, .int .i64 p, ptr r] (w.drewN n) fun e w' => e = .returned (.tuple #[]) ∧ Q w')) :
    Calls Tryz.prog 186 #[ptr nb, .string ⟨#[49, 49]⟩, .string v, .int .i64 p, ptr r] w fun e w' => e = .returned (.tuple #[]) ∧ Q w' := by
  have hk : ({ data := #[49, 49] } : ByteArray).toList.isEmpty = false := by simp
  have hno : ({ data := #[] } : ByteArray).toList.isEmpty = true := by simp
  have e1 : ((({ data := #[49, 49] } : ByteArray)[0]'(by decide)).toNat : Int) = 49 := rfl
  have ex : ({ data := #[49, 49] } : ByteArray).extract 1 2 = { data := #[49] } := by kernel_rfl
  go_enter Tryz.func186, Tryz.ntmps186
  go_upto_region 28 with fail
  go_quiet (fail)
  obtain ⟨w0, hw0⟩ : ∃ w0, w0 = w.drewN nq := ⟨_, rfl⟩
  have y4 : w0.cell? ⟨nb, 4, none⟩ = some (.slice (some ⟨T, 0, none⟩) 4 4) := by rw [hw0]; exact x4
  have yt : w0.cell? ⟨T, 1, none⟩ = some (.pointer (some ⟨K, 0, none⟩)) := by rw [hw0]; exact xt
  have HC1 := Lib.hid (HC.out (nq + 1))
  rw [← hw0]
  have HE : Hid (w.drewN (nq + 1) = w0.drew) := Lib.hid (by rw [hw0]; rfl)
  rw [HE.out] at HC1
  clear hw0 x2 x4 xt xm HC HE
  go_upto_region 31 with fail
  go_still_tail 12, (by kernel_rfl)
  change wpList _ _ _ _ _ w0.drew
  go_wp2_with (go_at_call 186
               refine HC1.out.mono ?_
               rintro e w7 ⟨rfl, hq⟩
               have HQ := Lib.hid hq
               clear hq)
  go_end0
  exact ⟨rfl, HQ.out⟩
set_option maxRecDepth 100000 in
set_option maxHeartbeats 8000000 in
theorem addTop_any (w : World) (r T : Nat) (gr : Array Value) (v : ByteArray) (p : Int) (hr : w.heap[r]? = some (.cells gr 239 (0, 0))) (g2 : gr[2]? = some (.string ⟨#[]⟩)) (g4 : gr[4]? = some (.slice (some ⟨T, 0, none⟩) 4 4)) (gm : gr[90]? = some (.int .u8 3)) (ht : w.heap[T]? = some (.cells #[.pointer none, .pointer none, .pointer none, .pointer none] 234 (0, 0))) :
    Calls Tryz.prog 186 #[ptr r, .string ⟨#[84, 56]⟩, .string v, .int .i64 p, ptr r] w fun e w' => e = .returned (.tuple #[]) ∧ ∃ N M, w.heap.size ≤ N ∧ N < w'.heap.size ∧ w.heap.size ≤ M ∧ M < w'.heap.size ∧ w'.heap[T]? = some (.cells #[.pointer none, .pointer none, .pointer none, ptr N] 234 (0, 0)) ∧ NodAt w' N noB 0 ⟨#[56]⟩ (ptr M) noS ∧ NodAt w' M v p noB noP noS ∧ Ch (· = T) w w' := by
  have hk : ({ data := #[84, 56] } : ByteArray).toList.isEmpty = false := by simp
  have hno : ({ data := #[] } : ByteArray).toList.isEmpty = true := by simp
  have e1 : ((({ data := #[84, 56] } : ByteArray)[0]'(by decide)).toNat : Int) = 84 := rfl
  have ex : ({ data := #[84, 56] } : ByteArray).extract 1 2 = { data := #[56] } := by kernel_rfl
  have x2 : w.cell? ⟨r, 2, none⟩ = some (.string ⟨#[]⟩) := blk_cell hr 2 g2
  have x4 : w.cell? ⟨r, 4, none⟩ = some (.slice (some ⟨T, 0, none⟩) 4 4) := blk_cell hr 4 g4
  have xm : w.cell? ⟨r, 90, none⟩ = some (.int .u8 3) := blk_cell hr 90 gm
  have xt : w.cell? ⟨T, 3, none⟩ = some (.pointer none) := blk_cell ht 3 rfl
  have hne : r ≠ T := by
    intro e
    subst e
    rw [hr] at ht
    injection ht with h1
    injection h1 with h1 h2
    exact absurd h2 (by decide)
  have HR := Lib.hid hr; have HT := Lib.hid ht; have HNE := Lib.hid hne
  clear hr ht hne
  go_enter Tryz.func186, Tryz.ntmps186
  go_upto_region 28 with fail
  go_quiet (fail)
  obtain ⟨w0, hw0⟩ : ∃ w0, w0 = w.drewN nq := ⟨_, rfl⟩
  have y4 : w0.cell? ⟨r, 4, none⟩ = some (.slice (some ⟨T, 0, none⟩) 4 4) := by rw [hw0]; exact x4
  have yt : w0.cell? ⟨T, 3, none⟩ = some (.pointer none) := by rw [hw0]; exact xt
  have HR0 : Hid (w0.heap[r]? = some (.cells gr 239 (0, 0))) := Lib.hid (by rw [hw0]; exact HR.out)
  have HT0 : Hid (w0.heap[T]? = some (.cells #[.pointer none, .pointer none, .pointer none, .pointer none] 234 (0, 0))) := Lib.hid (by rw [hw0]; exact HT.out)
  have HC0 : Hid (Ch (· = T) w w0) := Lib.hid (by rw [hw0]; exact ch_drewN (Ch.refl _ _))
  rw [← hw0]
  clear hw0 x2 x4 xt xm
  go_upto_region 30 with fail
  obtain ⟨w1, hw1⟩ : ∃ w1, w1 = w0.alloc (.cells #[.string ⟨#[]⟩, .int .i64 0, .string ⟨#[]⟩, .pointer none, .slice none 0 0] 237) := ⟨_, rfl⟩
  have hHR1 : w1.heap[r]? = some (.cells gr 239 (0, 0)) := by rw [hw1]; exact blk_ch HR0.out (ch_alloc (fun _ => False) _ _) (fun h => h)
  have hHT1 : w1.heap[T]? = some (.cells #[.pointer none, .pointer none, .pointer none, .pointer none] 234 (0, 0)) := by rw [hw1]; exact blk_ch HT0.out (ch_alloc (fun _ => False) _ _) (fun h => h)
  have HN1 : Hid (NodAt w1 w0.heap.size noB 0 noB noP noS) := Lib.hid (by rw [hw1]; exact box_new _ _ _)
  have HC1 : Hid (Ch (· = T) w w1) := Lib.hid (by rw [hw1]; exact HC0.out.trans (ch_alloc _ _ _))
  have HTL : Hid (T < w0.heap.size ∧ w.heap.size ≤ w0.heap.size ∧ w1.heap.size = w0.heap.size + 1) := Lib.hid ⟨blk_lt HT0.out, HC0.out.size, by rw [hw1]; simp⟩
  have xt1 : (w0.alloc (.cells #[.string ⟨#[]⟩, .int .i64 0, .string ⟨#[]⟩, .pointer none, .slice none 0 0] 237)).cell? ⟨T, 3, none⟩ = some (.pointer none) := by rw [← hw1]; exact blk_cell hHT1 3 rfl
  have zt1 : (w0.alloc (.cells #[.string ⟨#[]⟩, .int .i64 0, .string ⟨#[]⟩, .pointer none, .slice none 0 0] 237)).frozen? ⟨T, 3, none⟩ = false := by rw [← hw1]; exact blk_free hHT1 3
  obtain ⟨w2, hw2⟩ : ∃ w2, w2 = w1.setCell ⟨T, 3, none⟩ (ptr w0.heap.size) := ⟨_, rfl⟩
  have hc2 : Ch (· = T) w1 w2 := by rw [hw2]; exact ch_set _ _ _ _
  have HT2 : Hid (w2.heap[T]? = some (.cells #[.pointer none, .pointer none, .pointer none, ptr w0.heap.size] 234 (0, 0))) := Lib.hid (by rw [hw2]; exact blk_set hHT1 3 _)
  have HR2 := Lib.hid (blk_ch hHR1 hc2 HNE.out)
  have HN2 : Hid (NodAt w2 w0.heap.size noB 0 noB noP noS) := Lib.hid (blk_ch HN1.out hc2 (by have := HTL.out; omega))
  have HC2 : Hid (Ch (· = T) w w2) := Lib.hid (HC1.out.trans hc2)
  have HS2 : Hid (w1.heap.size ≤ w2.heap.size) := Lib.hid hc2.size
  rw [hw1] at hw2
  clear hw1 hHR1 hHT1 hc2
  go_upto_region 31 with fail
  rw [← hw2]
  clear hw2 y4 yt xt1 zt1
  have y4 : w2.cell? ⟨r, 4, none⟩ = some (.slice (some ⟨T, 0, none⟩) 4 4) := blk_cell HR2.out 4 g4
  have yt : w2.cell? ⟨T, 3, none⟩ = some (.pointer (some ⟨w0.heap.size, 0, none⟩)) := blk_cell HT2.out 3 rfl
  go_still_tail 12, (by kernel_rfl)
  change wpList _ _ _ _ _ w2.drew
  have HKL : Hid ((⟨#[56]⟩ : ByteArray).toList.isEmpty = false) := Lib.hid (by simp)
  have HNd : Hid (NodAt w2.drew w0.heap.size noB 0 noB noP noS) := Lib.hid HN2.out
  go_wp2_with (go_at_call 186
               refine (addLeaf_any w2.drew w0.heap.size (ptr r) ⟨#[56]⟩ v p HNd.out HKL.out).mono ?_
               rintro e w7 ⟨rfl, M, hm1, hm2, hk, hm, hc⟩
               have HM7 := Lib.hid hm; have HK7 := Lib.hid hk; have HC7 := Lib.hid hc; have HM1 := Lib.hid hm1; have HM2 := Lib.hid hm2
               clear hm1 hm2 hk hm hc)
  go_end0
  have hcd : Ch (· = w0.heap.size) w2 w7 := ⟨HC7.out.os, HC7.out.tape, HC7.out.output, HC7.out.size, HC7.out.block⟩
  have hm1 : w2.heap.size ≤ M := HM1.out
  have h1 := HTL.out; have h2 := HS2.out; have h3 := hcd.size
  refine ⟨rfl, w0.heap.size, M, by omega, by omega, by omega, HM2.out, blk_ch HT2.out hcd (by omega), HK7.out, HM7.out, ?_⟩
  exact ch_step HC2.out hcd (fun q e => .inr (by have e1 : q = w0.heap.size := e; omega))
end Go.Proofs.YtadmbphefpfbmaaGreatDoor
