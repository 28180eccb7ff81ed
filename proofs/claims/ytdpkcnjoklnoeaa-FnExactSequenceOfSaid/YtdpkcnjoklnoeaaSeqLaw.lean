/- The law on SequenceOf. -/
import Derived.Test.YtdpkcnjoklnoeaaSeq
namespace Go.Proofs.Ytdpkcnjoklnoeaa
open Go.RowKit Limb

set_option maxHeartbeats 8000000 in
set_option maxRecDepth 100000 in
theorem lawSequenceOf (w : World) (A0 : Option Addr) (n0 c0 : Nat) (x0 : List Int) (hr0 : Rd w A0 n0 (ints x0)) :
    Calls Try.prog 13 #[.slice A0 n0 c0] w fun e w' => e = .returned (.bool true) ∧ Below w.heap.size w w' := by
  by_cases hbig0 : n0 ≤ 1048576
  rotate_left
  · go_enter Try.func13, Try.ntmps13
    go_wp2_with fail
    go_ret
    exact ⟨rfl, Below.refl _ _⟩
  have hS : ∀ (w : World) (A0 : Option Addr) (n0 c0 : Nat) (h0 : Rd w A0 n0 (ints x0)) (hn0 : n0 ≤ 1099511627776), Calls Try.prog 43 #[.slice A0 n0 c0] w (RetLI w ((seqNum x0).1) ((seqNum x0).2)) := fun w A0 n0 c0 h0 hn0 => specSequenceOf_any w A0 n0 c0 x0 h0 hn0
  have hI : ∀ (w : World) (A0 : Option Addr) (n0 c0 : Nat) (h0 : Rd w A0 n0 (ints x0)) (hn0 : n0 ≤ 1099511627776), Calls Try.prog 44 #[.slice A0 n0 c0] w (RetLI w ((seqNum x0).1) ((seqNum x0).2)) := fun w A0 n0 c0 h0 hn0 => implSequenceOf_any w A0 n0 c0 x0 h0 hn0
  have HRL0 : Hid (tot ((seqNum x0).1) ≤ 1000000 ∧ ((seqNum x0).1).length ≤ 1000000) := Lib.hid (seqNum_len _)
  have HS := Lib.hid hS; have HI := Lib.hid hI
  clear hS hI
  generalize (seqNum x0).1 = r0 at HS HI HRL0
  generalize (seqNum x0).2 = r1 at HS HI
  have HXL0 : Hid (x0.length = n0) := Lib.hid (by simpa using hr0.1)
  have HB := Below.refl w.heap.size w
  go_enter Try.func13, Try.ntmps13
  go_wp2_with fail
  refine (toInt64S_any _ _ _ _ x0 (hr0.below HB (Nat.le_refl _)) (by omega)).mono ?_
  rintro e v1 ⟨Ao1, no1, co1, rfl, hoo1, hbv1⟩
  have hno1 : no1 ≤ 1048576 := by have := hoo1.1; simp at this; have := HXL0.out; omega
  replace HB := HB.trans (hbv1.mono HB.size)
  have hszv1 := hbv1.size
  have hrgo1 : Hid (∀ k, (Value.slice Ao1 no1 co1).ownBlock = some k → w.heap.size ≤ k ∧ k < v1.heap.size) := Lib.hid fun k hk => hoo1.lt k hk
  go_wp2_with fail
  refine (HS.out _ _ _ _ (own_rd hoo1) (by omega)).mono ?_
  rintro e v2 ⟨Ao2, no2, co2, rfl, hoo2, hbv2⟩
  have hno2 : no2 ≤ 1000000 := by have := hoo2.len; have := HRL0.out.2; omega
  replace hoo1 := own_below hoo1 hbv2 (Nat.le_refl _)
  replace HB := HB.trans (hbv2.mono HB.size)
  have hszv2 := hbv2.size
  go_wp2_with fail
  refine (toInt64S_any _ _ _ _ x0 (hr0.below HB (Nat.le_refl _)) (by omega)).mono ?_
  rintro e v3 ⟨Ao3, no3, co3, rfl, hoo3, hbv3⟩
  have hno3 : no3 ≤ 1048576 := by have := hoo3.1; simp at this; have := HXL0.out; omega
  replace hoo1 := own_below hoo1 hbv3 (Nat.le_refl _)
  replace hoo2 := hoo2.below hbv3 (Nat.le_refl _) (by omega)
  replace HB := HB.trans (hbv3.mono HB.size)
  have hszv3 := hbv3.size
  have hrgo3 : Hid (∀ k, (Value.slice Ao3 no3 co3).ownBlock = some k → v2.heap.size ≤ k ∧ k < v3.heap.size) := Lib.hid fun k hk => hoo3.lt k hk
  go_wp2_with fail
  refine (HI.out _ _ _ _ (own_rd hoo3) (by omega)).mono ?_
  rintro e v4 ⟨Ao4, no4, co4, rfl, hoo4, hbv4⟩
  have hno4 : no4 ≤ 1000000 := by have := hoo4.len; have := HRL0.out.2; omega
  replace hoo1 := own_below hoo1 hbv4 (Nat.le_refl _)
  replace hoo2 := hoo2.below hbv4 (Nat.le_refl _) (by omega)
  replace hoo3 := own_below hoo3 hbv4 (Nat.le_refl _)
  replace HB := HB.trans (hbv4.mono HB.size)
  have hszv4 := hbv4.size
  go_wp2_with fail
  refine (eqL_same _ _ _ _ _ hoo4.rdl (by omega) _ _ _ hoo2.rdl).mono ?_
  rintro e v5 ⟨rfl, hbv5⟩
  replace hoo1 := own_below hoo1 hbv5 (Nat.le_refl _)
  replace hoo2 := hoo2.below hbv5 (Nat.le_refl _) (by omega)
  replace hoo3 := own_below hoo3 hbv5 (Nat.le_refl _)
  replace hoo4 := hoo4.below hbv5 (Nat.le_refl _) (by omega)
  replace HB := HB.trans (hbv5.mono HB.size)
  have hszv5 := hbv5.size
  go_wp2_with fail
  refine (toInt64S_any _ _ _ _ x0 (hr0.below HB (Nat.le_refl _)) (by omega)).mono ?_
  rintro e v6 ⟨Ao5, no5, co5, rfl, hoo5, hbv6⟩
  have hno5 : no5 ≤ 1048576 := by have := hoo5.1; simp at this; have := HXL0.out; omega
  replace hoo1 := own_below hoo1 hbv6 (Nat.le_refl _)
  replace hoo2 := hoo2.below hbv6 (Nat.le_refl _) (by omega)
  replace hoo3 := own_below hoo3 hbv6 (Nat.le_refl _)
  replace hoo4 := hoo4.below hbv6 (Nat.le_refl _) (by omega)
  replace HB := HB.trans (hbv6.mono HB.size)
  have hszv6 := hbv6.size
  have hrgo5 : Hid (∀ k, (Value.slice Ao5 no5 co5).ownBlock = some k → v5.heap.size ≤ k ∧ k < v6.heap.size) := Lib.hid fun k hk => hoo5.lt k hk
  go_wp2_with fail
  refine (eq_same _ _ _ _ _ (own_rd hoo3) (by omega) _ _ _ (own_rd hoo5)).mono ?_
  rintro e v7 ⟨rfl, hbv7⟩
  replace hoo1 := own_below hoo1 hbv7 (Nat.le_refl _)
  replace hoo2 := hoo2.below hbv7 (Nat.le_refl _) (by omega)
  replace hoo3 := own_below hoo3 hbv7 (Nat.le_refl _)
  replace hoo4 := hoo4.below hbv7 (Nat.le_refl _) (by omega)
  replace hoo5 := own_below hoo5 hbv7 (Nat.le_refl _)
  replace HB := HB.trans (hbv7.mono HB.size)
  have hszv7 := hbv7.size
  go_wp2_with fail
  refine (markInt64S_any _ _ _ _ _ _ hoo3 (by omega) (1) (by omega) (by omega)).mono ?_
  rintro e v8 ⟨rfl, hmo3, hgv8⟩
  have hOv8 : Outside v2.heap.size v3.heap.size _ v8 := out_grown hgv8 hrgo3.out
  replace hoo1 := own_out hoo1 hrgo1.out hOv8 (by omega)
  replace hoo2 := hoo2.out hOv8 (by omega)
  replace hoo4 := hoo4.out hOv8 (by omega)
  replace hoo5 := own_out hoo5 hrgo5.out hOv8 (by omega)
  replace HB := below_out HB hOv8 (by omega) HB.size
  replace hoo3 := hmo3
  have hszv8 := hOv8.size
  go_wp2_with fail
  refine (eqL_same _ _ _ _ _ hoo4.rdl (by omega) _ _ _ hoo2.rdl).mono ?_
  rintro e v9 ⟨rfl, hbv9⟩
  replace hoo1 := own_below hoo1 hbv9 (Nat.le_refl _)
  replace hoo2 := hoo2.below hbv9 (Nat.le_refl _) (by omega)
  replace hoo3 := own_below hoo3 hbv9 (Nat.le_refl _)
  replace hoo4 := hoo4.below hbv9 (Nat.le_refl _) (by omega)
  replace hoo5 := own_below hoo5 hbv9 (Nat.le_refl _)
  replace HB := HB.trans (hbv9.mono HB.size)
  have hszv9 := hbv9.size
  go_wp2_with fail
  have hTv10 : tot r0 ≤ 1048576 := by have := HRL0.out.1; omega
  refine (markInt64SS_any _ _ _ _ _ _ r0 hoo4 (by omega) (by omega) (1) (by omega) (by omega)).mono ?_
  rintro e v10 ⟨rfl, hmo4, hOv10⟩
  replace hoo1 := own_out hoo1 hrgo1.out hOv10 (by omega)
  replace hoo2 := hoo2.out hOv10 (by omega)
  replace hoo3 := own_out hoo3 hrgo3.out hOv10 (by omega)
  replace hoo5 := own_out hoo5 hrgo5.out hOv10 (by omega)
  replace HB := below_out HB hOv10 (by omega) HB.size
  replace hoo4 := hmo4
  have hszv10 := hOv10.size
  go_wp2_with fail
  have hTv11 : tot r0 ≤ 1048576 := by have := HRL0.out.1; omega
  refine (heldInt64SS_any _ _ _ _ r0 (1) hoo4.rdl (by omega) (by omega) (by omega) (by omega)).mono ?_
  rintro e v11 ⟨rfl, hbv11⟩
  replace hoo1 := own_below hoo1 hbv11 (Nat.le_refl _)
  replace hoo2 := hoo2.below hbv11 (Nat.le_refl _) (by omega)
  replace hoo3 := own_below hoo3 hbv11 (Nat.le_refl _)
  replace hoo4 := hoo4.below hbv11 (Nat.le_refl _) (by omega)
  replace hoo5 := own_below hoo5 hbv11 (Nat.le_refl _)
  replace HB := HB.trans (hbv11.mono HB.size)
  have hszv11 := hbv11.size
  go_wp2_with fail
  refine (toInt64S_any _ _ _ _ x0 (hr0.below HB (Nat.le_refl _)) (by omega)).mono ?_
  rintro e v12 ⟨Ao6, no6, co6, rfl, hoo6, hbv12⟩
  have hno6 : no6 ≤ 1048576 := by have := hoo6.1; simp at this; have := HXL0.out; omega
  replace hoo1 := own_below hoo1 hbv12 (Nat.le_refl _)
  replace hoo2 := hoo2.below hbv12 (Nat.le_refl _) (by omega)
  replace hoo3 := own_below hoo3 hbv12 (Nat.le_refl _)
  replace hoo4 := hoo4.below hbv12 (Nat.le_refl _) (by omega)
  replace hoo5 := own_below hoo5 hbv12 (Nat.le_refl _)
  replace HB := HB.trans (hbv12.mono HB.size)
  have hszv12 := hbv12.size
  have hrgo6 : Hid (∀ k, (Value.slice Ao6 no6 co6).ownBlock = some k → v11.heap.size ≤ k ∧ k < v12.heap.size) := Lib.hid fun k hk => hoo6.lt k hk
  go_wp2_with fail
  refine (HI.out _ _ _ _ (own_rd hoo6) (by omega)).mono ?_
  rintro e v13 ⟨Ao7, no7, co7, rfl, hoo7, hbv13⟩
  have hno7 : no7 ≤ 1000000 := by have := hoo7.len; have := HRL0.out.2; omega
  replace hoo1 := own_below hoo1 hbv13 (Nat.le_refl _)
  replace hoo2 := hoo2.below hbv13 (Nat.le_refl _) (by omega)
  replace hoo3 := own_below hoo3 hbv13 (Nat.le_refl _)
  replace hoo4 := hoo4.below hbv13 (Nat.le_refl _) (by omega)
  replace hoo5 := own_below hoo5 hbv13 (Nat.le_refl _)
  replace hoo6 := own_below hoo6 hbv13 (Nat.le_refl _)
  replace HB := HB.trans (hbv13.mono HB.size)
  have hszv13 := hbv13.size
  go_wp2_with fail
  refine (eqL_same _ _ _ _ _ hoo7.rdl (by omega) _ _ _ hoo2.rdl).mono ?_
  rintro e v14 ⟨rfl, hbv14⟩
  replace hoo1 := own_below hoo1 hbv14 (Nat.le_refl _)
  replace hoo2 := hoo2.below hbv14 (Nat.le_refl _) (by omega)
  replace hoo3 := own_below hoo3 hbv14 (Nat.le_refl _)
  replace hoo4 := hoo4.below hbv14 (Nat.le_refl _) (by omega)
  replace hoo5 := own_below hoo5 hbv14 (Nat.le_refl _)
  replace hoo6 := own_below hoo6 hbv14 (Nat.le_refl _)
  replace hoo7 := hoo7.below hbv14 (Nat.le_refl _) (by omega)
  replace HB := HB.trans (hbv14.mono HB.size)
  have hszv14 := hbv14.size
  go_wp2_with fail
  have hTv15 : tot r0 ≤ 1048576 := by have := HRL0.out.1; omega
  refine (heldInt64SS_any _ _ _ _ r0 (1) hoo4.rdl (by omega) (by omega) (by omega) (by omega)).mono ?_
  rintro e v15 ⟨rfl, hbv15⟩
  replace hoo1 := own_below hoo1 hbv15 (Nat.le_refl _)
  replace hoo2 := hoo2.below hbv15 (Nat.le_refl _) (by omega)
  replace hoo3 := own_below hoo3 hbv15 (Nat.le_refl _)
  replace hoo4 := hoo4.below hbv15 (Nat.le_refl _) (by omega)
  replace hoo5 := own_below hoo5 hbv15 (Nat.le_refl _)
  replace hoo6 := own_below hoo6 hbv15 (Nat.le_refl _)
  replace hoo7 := hoo7.below hbv15 (Nat.le_refl _) (by omega)
  replace HB := HB.trans (hbv15.mono HB.size)
  have hszv15 := hbv15.size
  go_wp2_with fail
  go_ret
  exact ⟨rfl, HB⟩
end Go.Proofs.Ytdpkcnjoklnoeaa
