/- The law on TreeOfList. -/
import Derived.Test.YtnfkmcphkecemaaTol3
namespace Go.Proofs.Ytnfkmcphkecemaa
open Go.RowKit
set_option maxHeartbeats 8000000 in
set_option maxRecDepth 100000 in
theorem lawTreeOfList (w : World) (A0 : Option Addr) (n0 c0 : Nat) (x0 : List (List Bool)) (hw0 : RdWB w A0 n0 x0) (hnn0 : n0 ≤ 9223372036854775807) :
    Calls Try.prog 5 #[.slice A0 n0 c0] w fun e w' => e = .returned (.bool true) ∧ Below w.heap.size w w' := by
  have hS : ∀ (w : World) (A0 : Option Addr) (n0 c0 : Nat) (h0 : RdB w A0 n0 x0) (hn0 : n0 ≤ 1000000000) (hcp0 : n0 ≤ c0), Calls Try.prog 17 #[.slice A0 n0 c0] w (RetSI w 4 (bools ((tolNum x0).1)) ((tolNum x0).2)) := fun w A0 n0 c0 h0 hn0 hcp0 => specTreeOfList_any w A0 n0 c0 x0 h0 (by omega) hcp0
  have hI : ∀ (w : World) (A0 : Option Addr) (n0 c0 : Nat) (h0 : RdB w A0 n0 x0) (hn0 : n0 ≤ 1000000000) (hcp0 : n0 ≤ c0), Calls Try.prog 19 #[.slice A0 n0 c0] w (RetSI w 4 (bools ((tolNum x0).1)) ((tolNum x0).2)) := fun w A0 n0 c0 h0 hn0 hcp0 => implTreeOfList_any w A0 n0 c0 x0 h0 (by omega) hcp0
  have HRL0 : Hid (((tolNum x0).1).length ≤ 1000000) := Lib.hid (tolNum_len _)
  have HS := Lib.hid hS; have HI := Lib.hid hI
  clear hS hI
  generalize (tolNum x0).1 = r0 at HS HI HRL0
  generalize (tolNum x0).2 = r1 at HS HI
  have HXL0 : Hid (x0.length = n0) := Lib.hid hw0.len
  have HB := Below.refl w.heap.size w
  go_enter Try.func5, Try.ntmps5
  go_wp2_with fail
  refine (szBoolSS_any _ _ _ _ x0 hw0 hnn0 _ (by omega) (by omega)).mono ?_
  rintro e v0 ⟨⟨r, rfl, hsz1, hsz2⟩, rfl⟩
  by_cases hrz : r < 0
  · clear hsz1 hsz2
    go_wp2_with fail
    go_ret
    exact ⟨rfl, HB⟩
  have hbig0 : n0 ≤ 1048576 := by have := hsz1 (by omega); omega
  have HTX0 : Hid (totB x0 ≤ 1048576) := Lib.hid (by have := hsz1 (by omega); omega)
  clear hsz1 hsz2
  have hr0 := hw0.rdb (by have := HTX0.out; omega)
  go_wp2_with fail
  refine (toBoolSS_any _ _ _ _ x0 (hr0.below HB (Nat.le_refl _)) (by omega)).mono ?_
  rintro e v1 ⟨Ao1, no1, co1, rfl, hoo1, hbv1⟩
  have hno1 : no1 ≤ 1048576 := by have := hoo1.len; have := HXL0.out; omega
  replace HB := HB.trans (hbv1.mono HB.size)
  have hszv1 := hbv1.size
  go_wp2_with fail
  refine (HS.out _ _ _ _ hoo1.rdb (by omega) hoo1.cap).mono ?_
  rintro e v2 ⟨Ao2, no2, co2, rfl, hoo2, hbv2⟩
  have hno2 : no2 ≤ 1000000 := by have := hoo2.1; simp at this; have := HRL0.out; omega
  replace hoo1 := hoo1.below hbv2 (Nat.le_refl _) (by omega)
  replace HB := HB.trans (hbv2.mono HB.size)
  have hszv2 := hbv2.size
  have hrgo2 : Hid (∀ k, (Value.slice Ao2 no2 co2).ownBlock = some k → v1.heap.size ≤ k ∧ k < v2.heap.size) := Lib.hid fun k hk => hoo2.lt k hk
  go_wp2_with fail
  refine (toBoolSS_any _ _ _ _ x0 (hr0.below HB (Nat.le_refl _)) (by omega)).mono ?_
  rintro e v3 ⟨Ao3, no3, co3, rfl, hoo3, hbv3⟩
  have hno3 : no3 ≤ 1048576 := by have := hoo3.len; have := HXL0.out; omega
  replace hoo1 := hoo1.below hbv3 (Nat.le_refl _) (by omega)
  replace hoo2 := own_below hoo2 hbv3 (Nat.le_refl _)
  replace HB := HB.trans (hbv3.mono HB.size)
  have hszv3 := hbv3.size
  go_wp2_with fail
  refine (HI.out _ _ _ _ hoo3.rdb (by omega) hoo3.cap).mono ?_
  rintro e v4 ⟨Ao4, no4, co4, rfl, hoo4, hbv4⟩
  have hno4 : no4 ≤ 1000000 := by have := hoo4.1; simp at this; have := HRL0.out; omega
  replace hoo1 := hoo1.below hbv4 (Nat.le_refl _) (by omega)
  replace hoo2 := own_below hoo2 hbv4 (Nat.le_refl _)
  replace hoo3 := hoo3.below hbv4 (Nat.le_refl _) (by omega)
  replace HB := HB.trans (hbv4.mono HB.size)
  have hszv4 := hbv4.size
  have hrgo4 : Hid (∀ k, (Value.slice Ao4 no4 co4).ownBlock = some k → v3.heap.size ≤ k ∧ k < v4.heap.size) := Lib.hid fun k hk => hoo4.lt k hk
  go_wp2_with fail
  refine (eqB_same _ _ _ _ _ (own_rd hoo4) (by omega) _ _ _ (own_rd hoo2)).mono ?_
  rintro e v5 ⟨rfl, hbv5⟩
  replace hoo1 := hoo1.below hbv5 (Nat.le_refl _) (by omega)
  replace hoo2 := own_below hoo2 hbv5 (Nat.le_refl _)
  replace hoo3 := hoo3.below hbv5 (Nat.le_refl _) (by omega)
  replace hoo4 := own_below hoo4 hbv5 (Nat.le_refl _)
  replace HB := HB.trans (hbv5.mono HB.size)
  have hszv5 := hbv5.size
  go_wp2_with fail
  refine (toBoolSS_any _ _ _ _ x0 (hr0.below HB (Nat.le_refl _)) (by omega)).mono ?_
  rintro e v6 ⟨Ao5, no5, co5, rfl, hoo5, hbv6⟩
  have hno5 : no5 ≤ 1048576 := by have := hoo5.len; have := HXL0.out; omega
  replace hoo1 := hoo1.below hbv6 (Nat.le_refl _) (by omega)
  replace hoo2 := own_below hoo2 hbv6 (Nat.le_refl _)
  replace hoo3 := hoo3.below hbv6 (Nat.le_refl _) (by omega)
  replace hoo4 := own_below hoo4 hbv6 (Nat.le_refl _)
  replace HB := HB.trans (hbv6.mono HB.size)
  have hszv6 := hbv6.size
  go_wp2_with fail
  refine (eqM_same _ _ _ _ _ hoo3.rdb (by omega) _ _ _ hoo5.rdb).mono ?_
  rintro e v7 ⟨rfl, hbv7⟩
  replace hoo1 := hoo1.below hbv7 (Nat.le_refl _) (by omega)
  replace hoo2 := own_below hoo2 hbv7 (Nat.le_refl _)
  replace hoo3 := hoo3.below hbv7 (Nat.le_refl _) (by omega)
  replace hoo4 := own_below hoo4 hbv7 (Nat.le_refl _)
  replace hoo5 := hoo5.below hbv7 (Nat.le_refl _) (by omega)
  replace HB := HB.trans (hbv7.mono HB.size)
  have hszv7 := hbv7.size
  go_wp2_with fail
  have hTv8 : totB x0 ≤ 1048576 := by have := HTX0.out; omega
  refine (markBoolSS_any _ _ _ _ _ _ x0 hoo3 (by omega) (by omega) (1) (by omega) (by omega)).mono ?_
  rintro e v8 ⟨rfl, hmo3, hOv8⟩
  replace hoo1 := hoo1.out hOv8 (by omega)
  replace hoo2 := own_out hoo2 hrgo2.out hOv8 (by omega)
  replace hoo4 := own_out hoo4 hrgo4.out hOv8 (by omega)
  replace hoo5 := hoo5.out hOv8 (by omega)
  replace HB := below_out HB hOv8 (by omega) HB.size
  replace hoo3 := hmo3
  have hszv8 := hOv8.size
  go_wp2_with fail
  refine (eqB_same _ _ _ _ _ (own_rd hoo4) (by omega) _ _ _ (own_rd hoo2)).mono ?_
  rintro e v9 ⟨rfl, hbv9⟩
  replace hoo1 := hoo1.below hbv9 (Nat.le_refl _) (by omega)
  replace hoo2 := own_below hoo2 hbv9 (Nat.le_refl _)
  replace hoo3 := hoo3.below hbv9 (Nat.le_refl _) (by omega)
  replace hoo4 := own_below hoo4 hbv9 (Nat.le_refl _)
  replace hoo5 := hoo5.below hbv9 (Nat.le_refl _) (by omega)
  replace HB := HB.trans (hbv9.mono HB.size)
  have hszv9 := hbv9.size
  go_wp2_with fail
  refine (markBoolS_any _ _ _ _ _ _ hoo4 (by omega) (1) (by omega) (by omega)).mono ?_
  rintro e v10 ⟨rfl, hmo4, hgv10⟩
  have hOv10 : Outside v3.heap.size v4.heap.size _ v10 := out_grown hgv10 hrgo4.out
  replace hoo1 := hoo1.out hOv10 (by omega)
  replace hoo2 := own_out hoo2 hrgo2.out hOv10 (by omega)
  replace hoo3 := hoo3.out hOv10 (by omega)
  replace hoo5 := hoo5.out hOv10 (by omega)
  replace HB := below_out HB hOv10 (by omega) HB.size
  replace hoo4 := hmo4
  have hszv10 := hOv10.size
  go_wp2_with fail
  refine (heldBoolS_any _ _ _ _ (1) (own_rd hoo4) (by omega) (by omega) (by omega)).mono ?_
  rintro e v11 ⟨rfl, hbv11⟩
  replace hoo1 := hoo1.below hbv11 (Nat.le_refl _) (by omega)
  replace hoo2 := own_below hoo2 hbv11 (Nat.le_refl _)
  replace hoo3 := hoo3.below hbv11 (Nat.le_refl _) (by omega)
  replace hoo4 := own_below hoo4 hbv11 (Nat.le_refl _)
  replace hoo5 := hoo5.below hbv11 (Nat.le_refl _) (by omega)
  replace HB := HB.trans (hbv11.mono HB.size)
  have hszv11 := hbv11.size
  go_wp2_with fail
  refine (toBoolSS_any _ _ _ _ x0 (hr0.below HB (Nat.le_refl _)) (by omega)).mono ?_
  rintro e v12 ⟨Ao6, no6, co6, rfl, hoo6, hbv12⟩
  have hno6 : no6 ≤ 1048576 := by have := hoo6.len; have := HXL0.out; omega
  replace hoo1 := hoo1.below hbv12 (Nat.le_refl _) (by omega)
  replace hoo2 := own_below hoo2 hbv12 (Nat.le_refl _)
  replace hoo3 := hoo3.below hbv12 (Nat.le_refl _) (by omega)
  replace hoo4 := own_below hoo4 hbv12 (Nat.le_refl _)
  replace hoo5 := hoo5.below hbv12 (Nat.le_refl _) (by omega)
  replace HB := HB.trans (hbv12.mono HB.size)
  have hszv12 := hbv12.size
  go_wp2_with fail
  refine (HI.out _ _ _ _ hoo6.rdb (by omega) hoo6.cap).mono ?_
  rintro e v13 ⟨Ao7, no7, co7, rfl, hoo7, hbv13⟩
  have hno7 : no7 ≤ 1000000 := by have := hoo7.1; simp at this; have := HRL0.out; omega
  replace hoo1 := hoo1.below hbv13 (Nat.le_refl _) (by omega)
  replace hoo2 := own_below hoo2 hbv13 (Nat.le_refl _)
  replace hoo3 := hoo3.below hbv13 (Nat.le_refl _) (by omega)
  replace hoo4 := own_below hoo4 hbv13 (Nat.le_refl _)
  replace hoo5 := hoo5.below hbv13 (Nat.le_refl _) (by omega)
  replace hoo6 := hoo6.below hbv13 (Nat.le_refl _) (by omega)
  replace HB := HB.trans (hbv13.mono HB.size)
  have hszv13 := hbv13.size
  have hrgo7 : Hid (∀ k, (Value.slice Ao7 no7 co7).ownBlock = some k → v12.heap.size ≤ k ∧ k < v13.heap.size) := Lib.hid fun k hk => hoo7.lt k hk
  go_wp2_with fail
  refine (eqB_same _ _ _ _ _ (own_rd hoo7) (by omega) _ _ _ (own_rd hoo2)).mono ?_
  rintro e v14 ⟨rfl, hbv14⟩
  replace hoo1 := hoo1.below hbv14 (Nat.le_refl _) (by omega)
  replace hoo2 := own_below hoo2 hbv14 (Nat.le_refl _)
  replace hoo3 := hoo3.below hbv14 (Nat.le_refl _) (by omega)
  replace hoo4 := own_below hoo4 hbv14 (Nat.le_refl _)
  replace hoo5 := hoo5.below hbv14 (Nat.le_refl _) (by omega)
  replace hoo6 := hoo6.below hbv14 (Nat.le_refl _) (by omega)
  replace hoo7 := own_below hoo7 hbv14 (Nat.le_refl _)
  replace HB := HB.trans (hbv14.mono HB.size)
  have hszv14 := hbv14.size
  go_wp2_with fail
  refine (heldBoolS_any _ _ _ _ (1) (own_rd hoo4) (by omega) (by omega) (by omega)).mono ?_
  rintro e v15 ⟨rfl, hbv15⟩
  replace hoo1 := hoo1.below hbv15 (Nat.le_refl _) (by omega)
  replace hoo2 := own_below hoo2 hbv15 (Nat.le_refl _)
  replace hoo3 := hoo3.below hbv15 (Nat.le_refl _) (by omega)
  replace hoo4 := own_below hoo4 hbv15 (Nat.le_refl _)
  replace hoo5 := hoo5.below hbv15 (Nat.le_refl _) (by omega)
  replace hoo6 := hoo6.below hbv15 (Nat.le_refl _) (by omega)
  replace hoo7 := own_below hoo7 hbv15 (Nat.le_refl _)
  replace HB := HB.trans (hbv15.mono HB.size)
  have hszv15 := hbv15.size
  go_wp2_with fail
  go_ret
  exact ⟨rfl, HB⟩
end Go.Proofs.Ytnfkmcphkecemaa
