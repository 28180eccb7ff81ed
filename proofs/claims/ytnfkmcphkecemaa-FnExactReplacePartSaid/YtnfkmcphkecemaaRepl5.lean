/- The law on ReplacePart. -/
import Derived.Test.YtnfkmcphkecemaaRepl4
import Derived.Test.YtnfkmcphkecemaaLawI
namespace Go.Proofs.Ytnfkmcphkecemaa
open Go.RowKit
theorem own_cap {w : World} {base e n c : Nat} {A : Option Addr} {vs : List Value} (h : w.ownsRow base e 1 (.slice A n c) n vs) : n ≤ c := by
  obtain ⟨A', c', e, h1, _⟩ := own_form h
  injection e with e1 e2 e3
  omega
set_option maxHeartbeats 8000000 in
set_option maxRecDepth 100000 in
theorem lawReplacePart (w : World) (A0 : Option Addr) (n0 c0 : Nat) (x0 : List Bool) (hr0 : Rd w A0 n0 (bools x0)) (A1 : Option Addr) (n1 c1 : Nat) (x1 : List Int) (hr1 : Rd w A1 n1 (ints x1)) (A2 : Option Addr) (n2 c2 : Nat) (x2 : List Bool) (hr2 : Rd w A2 n2 (bools x2)) :
    Calls Try.prog 7 #[.slice A0 n0 c0, .slice A1 n1 c1, .slice A2 n2 c2] w fun e w' => e = .returned (.bool true) ∧ Below w.heap.size w w' := by
  by_cases hbig0 : n0 ≤ 1048576
  rotate_left
  · go_enter Try.func7, Try.ntmps7
    go_wp2_with fail
    go_ret
    exact ⟨rfl, Below.refl _ _⟩
  by_cases hbig1 : n1 ≤ 1048576
  rotate_left
  · go_enter Try.func7, Try.ntmps7
    go_wp2_with fail
    go_ret
    exact ⟨rfl, Below.refl _ _⟩
  by_cases hbig2 : n2 ≤ 1048576
  rotate_left
  · go_enter Try.func7, Try.ntmps7
    go_wp2_with fail
    go_ret
    exact ⟨rfl, Below.refl _ _⟩
  have hS : ∀ (w : World) (A0 : Option Addr) (n0 c0 : Nat) (h0 : Rd w A0 n0 (bools x0)) (hn0 : n0 ≤ 1000000000) (hcp0 : n0 ≤ c0) (A1 : Option Addr) (n1 c1 : Nat) (h1 : Rd w A1 n1 (ints x1)) (hn1 : n1 ≤ 1000000000) (hcp1 : n1 ≤ c1) (A2 : Option Addr) (n2 c2 : Nat) (h2 : Rd w A2 n2 (bools x2)) (hn2 : n2 ≤ 1000000000) (hcp2 : n2 ≤ c2), Calls Try.prog 31 #[.slice A0 n0 c0, .slice A1 n1 c1, .slice A2 n2 c2] w (RetSI w 4 (bools ((repNum x0 x1 x2).1)) ((repNum x0 x1 x2).2)) := fun w A0 n0 c0 h0 hn0 hcp0 A1 n1 c1 h1 hn1 hcp1 A2 n2 c2 h2 hn2 hcp2 => specReplacePart_any w A0 n0 c0 x0 h0 (by omega) hcp0 A1 n1 c1 x1 h1 (by omega) A2 n2 c2 x2 h2 (by omega)
  have hI : ∀ (w : World) (A0 : Option Addr) (n0 c0 : Nat) (h0 : Rd w A0 n0 (bools x0)) (hn0 : n0 ≤ 1000000000) (hcp0 : n0 ≤ c0) (A1 : Option Addr) (n1 c1 : Nat) (h1 : Rd w A1 n1 (ints x1)) (hn1 : n1 ≤ 1000000000) (hcp1 : n1 ≤ c1) (A2 : Option Addr) (n2 c2 : Nat) (h2 : Rd w A2 n2 (bools x2)) (hn2 : n2 ≤ 1000000000) (hcp2 : n2 ≤ c2), Calls Try.prog 33 #[.slice A0 n0 c0, .slice A1 n1 c1, .slice A2 n2 c2] w (RetSI w 4 (bools ((repNum x0 x1 x2).1)) ((repNum x0 x1 x2).2)) := fun w A0 n0 c0 h0 hn0 hcp0 A1 n1 c1 h1 hn1 hcp1 A2 n2 c2 h2 hn2 hcp2 => implReplacePart_any w A0 n0 c0 x0 h0 (by omega) A1 n1 c1 x1 h1 (by omega) hcp1 A2 n2 c2 x2 h2 (by omega)
  have HRL0 : Hid (((repNum x0 x1 x2).1).length ≤ 1000000) := Lib.hid (repNum_len _ _ _)
  have HS := Lib.hid hS; have HI := Lib.hid hI
  clear hS hI
  generalize (repNum x0 x1 x2).1 = r0 at HS HI HRL0
  generalize (repNum x0 x1 x2).2 = r1 at HS HI
  have HXL0 : Hid (x0.length = n0) := Lib.hid (by simpa using hr0.1)
  have HXL1 : Hid (x1.length = n1) := Lib.hid (by simpa using hr1.1)
  have HXL2 : Hid (x2.length = n2) := Lib.hid (by simpa using hr2.1)
  have HB := Below.refl w.heap.size w
  go_enter Try.func7, Try.ntmps7
  go_wp2_with fail
  refine (toBoolS_any _ _ _ _ x0 (hr0.below HB (Nat.le_refl _)) (by omega)).mono ?_
  rintro e v1 ⟨Ao1, no1, co1, rfl, hoo1, hbv1⟩
  have hno1 : no1 ≤ 1048576 := by have := hoo1.1; simp at this; have := HXL0.out; omega
  replace HB := HB.trans (hbv1.mono HB.size)
  have hszv1 := hbv1.size
  have hrgo1 : Hid (∀ k, (Value.slice Ao1 no1 co1).ownBlock = some k → w.heap.size ≤ k ∧ k < v1.heap.size) := Lib.hid fun k hk => hoo1.lt k hk
  go_wp2_with fail
  refine (toInt64S_any _ _ _ _ x1 (hr1.below HB (Nat.le_refl _)) (by omega)).mono ?_
  rintro e v2 ⟨Ao2, no2, co2, rfl, hoo2, hbv2⟩
  have hno2 : no2 ≤ 1048576 := by have := hoo2.1; simp at this; have := HXL1.out; omega
  replace hoo1 := own_below hoo1 hbv2 (Nat.le_refl _)
  replace HB := HB.trans (hbv2.mono HB.size)
  have hszv2 := hbv2.size
  have hrgo2 : Hid (∀ k, (Value.slice Ao2 no2 co2).ownBlock = some k → v1.heap.size ≤ k ∧ k < v2.heap.size) := Lib.hid fun k hk => hoo2.lt k hk
  go_wp2_with fail
  refine (toBoolS_any _ _ _ _ x2 (hr2.below HB (Nat.le_refl _)) (by omega)).mono ?_
  rintro e v3 ⟨Ao3, no3, co3, rfl, hoo3, hbv3⟩
  have hno3 : no3 ≤ 1048576 := by have := hoo3.1; simp at this; have := HXL2.out; omega
  replace hoo1 := own_below hoo1 hbv3 (Nat.le_refl _)
  replace hoo2 := own_below hoo2 hbv3 (Nat.le_refl _)
  replace HB := HB.trans (hbv3.mono HB.size)
  have hszv3 := hbv3.size
  have hrgo3 : Hid (∀ k, (Value.slice Ao3 no3 co3).ownBlock = some k → v2.heap.size ≤ k ∧ k < v3.heap.size) := Lib.hid fun k hk => hoo3.lt k hk
  go_wp2_with fail
  refine (HS.out _ _ _ _ (own_rd hoo1) (by omega) (own_cap hoo1) _ _ _ (own_rd hoo2) (by omega) (own_cap hoo2) _ _ _ (own_rd hoo3) (by omega) (own_cap hoo3)).mono ?_
  rintro e v4 ⟨Ao4, no4, co4, rfl, hoo4, hbv4⟩
  have hno4 : no4 ≤ 1000000 := by have := hoo4.1; simp at this; have := HRL0.out; omega
  replace hoo1 := own_below hoo1 hbv4 (Nat.le_refl _)
  replace hoo2 := own_below hoo2 hbv4 (Nat.le_refl _)
  replace hoo3 := own_below hoo3 hbv4 (Nat.le_refl _)
  replace HB := HB.trans (hbv4.mono HB.size)
  have hszv4 := hbv4.size
  have hrgo4 : Hid (∀ k, (Value.slice Ao4 no4 co4).ownBlock = some k → v3.heap.size ≤ k ∧ k < v4.heap.size) := Lib.hid fun k hk => hoo4.lt k hk
  go_wp2_with fail
  refine (toBoolS_any _ _ _ _ x0 (hr0.below HB (Nat.le_refl _)) (by omega)).mono ?_
  rintro e v5 ⟨Ao5, no5, co5, rfl, hoo5, hbv5⟩
  have hno5 : no5 ≤ 1048576 := by have := hoo5.1; simp at this; have := HXL0.out; omega
  replace hoo1 := own_below hoo1 hbv5 (Nat.le_refl _)
  replace hoo2 := own_below hoo2 hbv5 (Nat.le_refl _)
  replace hoo3 := own_below hoo3 hbv5 (Nat.le_refl _)
  replace hoo4 := own_below hoo4 hbv5 (Nat.le_refl _)
  replace HB := HB.trans (hbv5.mono HB.size)
  have hszv5 := hbv5.size
  have hrgo5 : Hid (∀ k, (Value.slice Ao5 no5 co5).ownBlock = some k → v4.heap.size ≤ k ∧ k < v5.heap.size) := Lib.hid fun k hk => hoo5.lt k hk
  go_wp2_with fail
  refine (toInt64S_any _ _ _ _ x1 (hr1.below HB (Nat.le_refl _)) (by omega)).mono ?_
  rintro e v6 ⟨Ao6, no6, co6, rfl, hoo6, hbv6⟩
  have hno6 : no6 ≤ 1048576 := by have := hoo6.1; simp at this; have := HXL1.out; omega
  replace hoo1 := own_below hoo1 hbv6 (Nat.le_refl _)
  replace hoo2 := own_below hoo2 hbv6 (Nat.le_refl _)
  replace hoo3 := own_below hoo3 hbv6 (Nat.le_refl _)
  replace hoo4 := own_below hoo4 hbv6 (Nat.le_refl _)
  replace hoo5 := own_below hoo5 hbv6 (Nat.le_refl _)
  replace HB := HB.trans (hbv6.mono HB.size)
  have hszv6 := hbv6.size
  have hrgo6 : Hid (∀ k, (Value.slice Ao6 no6 co6).ownBlock = some k → v5.heap.size ≤ k ∧ k < v6.heap.size) := Lib.hid fun k hk => hoo6.lt k hk
  go_wp2_with fail
  refine (toBoolS_any _ _ _ _ x2 (hr2.below HB (Nat.le_refl _)) (by omega)).mono ?_
  rintro e v7 ⟨Ao7, no7, co7, rfl, hoo7, hbv7⟩
  have hno7 : no7 ≤ 1048576 := by have := hoo7.1; simp at this; have := HXL2.out; omega
  replace hoo1 := own_below hoo1 hbv7 (Nat.le_refl _)
  replace hoo2 := own_below hoo2 hbv7 (Nat.le_refl _)
  replace hoo3 := own_below hoo3 hbv7 (Nat.le_refl _)
  replace hoo4 := own_below hoo4 hbv7 (Nat.le_refl _)
  replace hoo5 := own_below hoo5 hbv7 (Nat.le_refl _)
  replace hoo6 := own_below hoo6 hbv7 (Nat.le_refl _)
  replace HB := HB.trans (hbv7.mono HB.size)
  have hszv7 := hbv7.size
  have hrgo7 : Hid (∀ k, (Value.slice Ao7 no7 co7).ownBlock = some k → v6.heap.size ≤ k ∧ k < v7.heap.size) := Lib.hid fun k hk => hoo7.lt k hk
  go_wp2_with fail
  refine (HI.out _ _ _ _ (own_rd hoo5) (by omega) (own_cap hoo5) _ _ _ (own_rd hoo6) (by omega) (own_cap hoo6) _ _ _ (own_rd hoo7) (by omega) (own_cap hoo7)).mono ?_
  rintro e v8 ⟨Ao8, no8, co8, rfl, hoo8, hbv8⟩
  have hno8 : no8 ≤ 1000000 := by have := hoo8.1; simp at this; have := HRL0.out; omega
  replace hoo1 := own_below hoo1 hbv8 (Nat.le_refl _)
  replace hoo2 := own_below hoo2 hbv8 (Nat.le_refl _)
  replace hoo3 := own_below hoo3 hbv8 (Nat.le_refl _)
  replace hoo4 := own_below hoo4 hbv8 (Nat.le_refl _)
  replace hoo5 := own_below hoo5 hbv8 (Nat.le_refl _)
  replace hoo6 := own_below hoo6 hbv8 (Nat.le_refl _)
  replace hoo7 := own_below hoo7 hbv8 (Nat.le_refl _)
  replace HB := HB.trans (hbv8.mono HB.size)
  have hszv8 := hbv8.size
  have hrgo8 : Hid (∀ k, (Value.slice Ao8 no8 co8).ownBlock = some k → v7.heap.size ≤ k ∧ k < v8.heap.size) := Lib.hid fun k hk => hoo8.lt k hk
  go_wp2_with fail
  refine (eqB_same _ _ _ _ _ (own_rd hoo8) (by omega) _ _ _ (own_rd hoo4)).mono ?_
  rintro e v9 ⟨rfl, hbv9⟩
  replace hoo1 := own_below hoo1 hbv9 (Nat.le_refl _)
  replace hoo2 := own_below hoo2 hbv9 (Nat.le_refl _)
  replace hoo3 := own_below hoo3 hbv9 (Nat.le_refl _)
  replace hoo4 := own_below hoo4 hbv9 (Nat.le_refl _)
  replace hoo5 := own_below hoo5 hbv9 (Nat.le_refl _)
  replace hoo6 := own_below hoo6 hbv9 (Nat.le_refl _)
  replace hoo7 := own_below hoo7 hbv9 (Nat.le_refl _)
  replace hoo8 := own_below hoo8 hbv9 (Nat.le_refl _)
  replace HB := HB.trans (hbv9.mono HB.size)
  have hszv9 := hbv9.size
  go_wp2_with fail
  refine (toBoolS_any _ _ _ _ x0 (hr0.below HB (Nat.le_refl _)) (by omega)).mono ?_
  rintro e v10 ⟨Ao9, no9, co9, rfl, hoo9, hbv10⟩
  have hno9 : no9 ≤ 1048576 := by have := hoo9.1; simp at this; have := HXL0.out; omega
  replace hoo1 := own_below hoo1 hbv10 (Nat.le_refl _)
  replace hoo2 := own_below hoo2 hbv10 (Nat.le_refl _)
  replace hoo3 := own_below hoo3 hbv10 (Nat.le_refl _)
  replace hoo4 := own_below hoo4 hbv10 (Nat.le_refl _)
  replace hoo5 := own_below hoo5 hbv10 (Nat.le_refl _)
  replace hoo6 := own_below hoo6 hbv10 (Nat.le_refl _)
  replace hoo7 := own_below hoo7 hbv10 (Nat.le_refl _)
  replace hoo8 := own_below hoo8 hbv10 (Nat.le_refl _)
  replace HB := HB.trans (hbv10.mono HB.size)
  have hszv10 := hbv10.size
  have hrgo9 : Hid (∀ k, (Value.slice Ao9 no9 co9).ownBlock = some k → v9.heap.size ≤ k ∧ k < v10.heap.size) := Lib.hid fun k hk => hoo9.lt k hk
  go_wp2_with fail
  refine (eqB_same _ _ _ _ _ (own_rd hoo5) (by omega) _ _ _ (own_rd hoo9)).mono ?_
  rintro e v11 ⟨rfl, hbv11⟩
  replace hoo1 := own_below hoo1 hbv11 (Nat.le_refl _)
  replace hoo2 := own_below hoo2 hbv11 (Nat.le_refl _)
  replace hoo3 := own_below hoo3 hbv11 (Nat.le_refl _)
  replace hoo4 := own_below hoo4 hbv11 (Nat.le_refl _)
  replace hoo5 := own_below hoo5 hbv11 (Nat.le_refl _)
  replace hoo6 := own_below hoo6 hbv11 (Nat.le_refl _)
  replace hoo7 := own_below hoo7 hbv11 (Nat.le_refl _)
  replace hoo8 := own_below hoo8 hbv11 (Nat.le_refl _)
  replace hoo9 := own_below hoo9 hbv11 (Nat.le_refl _)
  replace HB := HB.trans (hbv11.mono HB.size)
  have hszv11 := hbv11.size
  go_wp2_with fail
  refine (toInt64S_any _ _ _ _ x1 (hr1.below HB (Nat.le_refl _)) (by omega)).mono ?_
  rintro e v12 ⟨Ao10, no10, co10, rfl, hoo10, hbv12⟩
  have hno10 : no10 ≤ 1048576 := by have := hoo10.1; simp at this; have := HXL1.out; omega
  replace hoo1 := own_below hoo1 hbv12 (Nat.le_refl _)
  replace hoo2 := own_below hoo2 hbv12 (Nat.le_refl _)
  replace hoo3 := own_below hoo3 hbv12 (Nat.le_refl _)
  replace hoo4 := own_below hoo4 hbv12 (Nat.le_refl _)
  replace hoo5 := own_below hoo5 hbv12 (Nat.le_refl _)
  replace hoo6 := own_below hoo6 hbv12 (Nat.le_refl _)
  replace hoo7 := own_below hoo7 hbv12 (Nat.le_refl _)
  replace hoo8 := own_below hoo8 hbv12 (Nat.le_refl _)
  replace hoo9 := own_below hoo9 hbv12 (Nat.le_refl _)
  replace HB := HB.trans (hbv12.mono HB.size)
  have hszv12 := hbv12.size
  have hrgo10 : Hid (∀ k, (Value.slice Ao10 no10 co10).ownBlock = some k → v11.heap.size ≤ k ∧ k < v12.heap.size) := Lib.hid fun k hk => hoo10.lt k hk
  go_wp2_with fail
  refine (eq_same _ _ _ _ _ (own_rd hoo6) (by omega) _ _ _ (own_rd hoo10)).mono ?_
  rintro e v13 ⟨rfl, hbv13⟩
  replace hoo1 := own_below hoo1 hbv13 (Nat.le_refl _)
  replace hoo2 := own_below hoo2 hbv13 (Nat.le_refl _)
  replace hoo3 := own_below hoo3 hbv13 (Nat.le_refl _)
  replace hoo4 := own_below hoo4 hbv13 (Nat.le_refl _)
  replace hoo5 := own_below hoo5 hbv13 (Nat.le_refl _)
  replace hoo6 := own_below hoo6 hbv13 (Nat.le_refl _)
  replace hoo7 := own_below hoo7 hbv13 (Nat.le_refl _)
  replace hoo8 := own_below hoo8 hbv13 (Nat.le_refl _)
  replace hoo9 := own_below hoo9 hbv13 (Nat.le_refl _)
  replace hoo10 := own_below hoo10 hbv13 (Nat.le_refl _)
  replace HB := HB.trans (hbv13.mono HB.size)
  have hszv13 := hbv13.size
  go_wp2_with fail
  refine (toBoolS_any _ _ _ _ x2 (hr2.below HB (Nat.le_refl _)) (by omega)).mono ?_
  rintro e v14 ⟨Ao11, no11, co11, rfl, hoo11, hbv14⟩
  have hno11 : no11 ≤ 1048576 := by have := hoo11.1; simp at this; have := HXL2.out; omega
  replace hoo1 := own_below hoo1 hbv14 (Nat.le_refl _)
  replace hoo2 := own_below hoo2 hbv14 (Nat.le_refl _)
  replace hoo3 := own_below hoo3 hbv14 (Nat.le_refl _)
  replace hoo4 := own_below hoo4 hbv14 (Nat.le_refl _)
  replace hoo5 := own_below hoo5 hbv14 (Nat.le_refl _)
  replace hoo6 := own_below hoo6 hbv14 (Nat.le_refl _)
  replace hoo7 := own_below hoo7 hbv14 (Nat.le_refl _)
  replace hoo8 := own_below hoo8 hbv14 (Nat.le_refl _)
  replace hoo9 := own_below hoo9 hbv14 (Nat.le_refl _)
  replace hoo10 := own_below hoo10 hbv14 (Nat.le_refl _)
  replace HB := HB.trans (hbv14.mono HB.size)
  have hszv14 := hbv14.size
  have hrgo11 : Hid (∀ k, (Value.slice Ao11 no11 co11).ownBlock = some k → v13.heap.size ≤ k ∧ k < v14.heap.size) := Lib.hid fun k hk => hoo11.lt k hk
  go_wp2_with fail
  refine (eqB_same _ _ _ _ _ (own_rd hoo7) (by omega) _ _ _ (own_rd hoo11)).mono ?_
  rintro e v15 ⟨rfl, hbv15⟩
  replace hoo1 := own_below hoo1 hbv15 (Nat.le_refl _)
  replace hoo2 := own_below hoo2 hbv15 (Nat.le_refl _)
  replace hoo3 := own_below hoo3 hbv15 (Nat.le_refl _)
  replace hoo4 := own_below hoo4 hbv15 (Nat.le_refl _)
  replace hoo5 := own_below hoo5 hbv15 (Nat.le_refl _)
  replace hoo6 := own_below hoo6 hbv15 (Nat.le_refl _)
  replace hoo7 := own_below hoo7 hbv15 (Nat.le_refl _)
  replace hoo8 := own_below hoo8 hbv15 (Nat.le_refl _)
  replace hoo9 := own_below hoo9 hbv15 (Nat.le_refl _)
  replace hoo10 := own_below hoo10 hbv15 (Nat.le_refl _)
  replace hoo11 := own_below hoo11 hbv15 (Nat.le_refl _)
  replace HB := HB.trans (hbv15.mono HB.size)
  have hszv15 := hbv15.size
  go_wp2_with fail
  refine (markBoolS_any _ _ _ _ _ _ hoo5 (by omega) (1) (by omega) (by omega)).mono ?_
  rintro e v16 ⟨rfl, hmo5, hgv16⟩
  have hOv16 : Outside v4.heap.size v5.heap.size _ v16 := out_grown hgv16 hrgo5.out
  replace hoo1 := own_out hoo1 hrgo1.out hOv16 (by omega)
  replace hoo2 := own_out hoo2 hrgo2.out hOv16 (by omega)
  replace hoo3 := own_out hoo3 hrgo3.out hOv16 (by omega)
  replace hoo4 := own_out hoo4 hrgo4.out hOv16 (by omega)
  replace hoo6 := own_out hoo6 hrgo6.out hOv16 (by omega)
  replace hoo7 := own_out hoo7 hrgo7.out hOv16 (by omega)
  replace hoo8 := own_out hoo8 hrgo8.out hOv16 (by omega)
  replace hoo9 := own_out hoo9 hrgo9.out hOv16 (by omega)
  replace hoo10 := own_out hoo10 hrgo10.out hOv16 (by omega)
  replace hoo11 := own_out hoo11 hrgo11.out hOv16 (by omega)
  replace HB := below_out HB hOv16 (by omega) HB.size
  replace hoo5 := hmo5
  have hszv16 := hOv16.size
  go_wp2_with fail
  refine (markInt64S_any _ _ _ _ _ _ hoo6 (by omega) (1 + (no5 : Int)) (by omega) (by omega)).mono ?_
  rintro e v17 ⟨rfl, hmo6, hgv17⟩
  have hOv17 : Outside v5.heap.size v6.heap.size _ v17 := out_grown hgv17 hrgo6.out
  replace hoo1 := own_out hoo1 hrgo1.out hOv17 (by omega)
  replace hoo2 := own_out hoo2 hrgo2.out hOv17 (by omega)
  replace hoo3 := own_out hoo3 hrgo3.out hOv17 (by omega)
  replace hoo4 := own_out hoo4 hrgo4.out hOv17 (by omega)
  replace hoo5 := own_out hoo5 hrgo5.out hOv17 (by omega)
  replace hoo7 := own_out hoo7 hrgo7.out hOv17 (by omega)
  replace hoo8 := own_out hoo8 hrgo8.out hOv17 (by omega)
  replace hoo9 := own_out hoo9 hrgo9.out hOv17 (by omega)
  replace hoo10 := own_out hoo10 hrgo10.out hOv17 (by omega)
  replace hoo11 := own_out hoo11 hrgo11.out hOv17 (by omega)
  replace HB := below_out HB hOv17 (by omega) HB.size
  replace hoo6 := hmo6
  have hszv17 := hOv17.size
  go_wp2_with fail
  refine (markBoolS_any _ _ _ _ _ _ hoo7 (by omega) (1 + (no5 : Int) + (no6 : Int)) (by omega) (by omega)).mono ?_
  rintro e v18 ⟨rfl, hmo7, hgv18⟩
  have hOv18 : Outside v6.heap.size v7.heap.size _ v18 := out_grown hgv18 hrgo7.out
  replace hoo1 := own_out hoo1 hrgo1.out hOv18 (by omega)
  replace hoo2 := own_out hoo2 hrgo2.out hOv18 (by omega)
  replace hoo3 := own_out hoo3 hrgo3.out hOv18 (by omega)
  replace hoo4 := own_out hoo4 hrgo4.out hOv18 (by omega)
  replace hoo5 := own_out hoo5 hrgo5.out hOv18 (by omega)
  replace hoo6 := own_out hoo6 hrgo6.out hOv18 (by omega)
  replace hoo8 := own_out hoo8 hrgo8.out hOv18 (by omega)
  replace hoo9 := own_out hoo9 hrgo9.out hOv18 (by omega)
  replace hoo10 := own_out hoo10 hrgo10.out hOv18 (by omega)
  replace hoo11 := own_out hoo11 hrgo11.out hOv18 (by omega)
  replace HB := below_out HB hOv18 (by omega) HB.size
  replace hoo7 := hmo7
  have hszv18 := hOv18.size
  go_wp2_with fail
  refine (eqB_same _ _ _ _ _ (own_rd hoo8) (by omega) _ _ _ (own_rd hoo4)).mono ?_
  rintro e v19 ⟨rfl, hbv19⟩
  replace hoo1 := own_below hoo1 hbv19 (Nat.le_refl _)
  replace hoo2 := own_below hoo2 hbv19 (Nat.le_refl _)
  replace hoo3 := own_below hoo3 hbv19 (Nat.le_refl _)
  replace hoo4 := own_below hoo4 hbv19 (Nat.le_refl _)
  replace hoo5 := own_below hoo5 hbv19 (Nat.le_refl _)
  replace hoo6 := own_below hoo6 hbv19 (Nat.le_refl _)
  replace hoo7 := own_below hoo7 hbv19 (Nat.le_refl _)
  replace hoo8 := own_below hoo8 hbv19 (Nat.le_refl _)
  replace hoo9 := own_below hoo9 hbv19 (Nat.le_refl _)
  replace hoo10 := own_below hoo10 hbv19 (Nat.le_refl _)
  replace hoo11 := own_below hoo11 hbv19 (Nat.le_refl _)
  replace HB := HB.trans (hbv19.mono HB.size)
  have hszv19 := hbv19.size
  go_wp2_with fail
  refine (markBoolS_any _ _ _ _ _ _ hoo8 (by omega) (1) (by omega) (by omega)).mono ?_
  rintro e v20 ⟨rfl, hmo8, hgv20⟩
  have hOv20 : Outside v7.heap.size v8.heap.size _ v20 := out_grown hgv20 hrgo8.out
  replace hoo1 := own_out hoo1 hrgo1.out hOv20 (by omega)
  replace hoo2 := own_out hoo2 hrgo2.out hOv20 (by omega)
  replace hoo3 := own_out hoo3 hrgo3.out hOv20 (by omega)
  replace hoo4 := own_out hoo4 hrgo4.out hOv20 (by omega)
  replace hoo5 := own_out hoo5 hrgo5.out hOv20 (by omega)
  replace hoo6 := own_out hoo6 hrgo6.out hOv20 (by omega)
  replace hoo7 := own_out hoo7 hrgo7.out hOv20 (by omega)
  replace hoo9 := own_out hoo9 hrgo9.out hOv20 (by omega)
  replace hoo10 := own_out hoo10 hrgo10.out hOv20 (by omega)
  replace hoo11 := own_out hoo11 hrgo11.out hOv20 (by omega)
  replace HB := below_out HB hOv20 (by omega) HB.size
  replace hoo8 := hmo8
  have hszv20 := hOv20.size
  go_wp2_with fail
  refine (heldBoolS_any _ _ _ _ (1) (own_rd hoo8) (by omega) (by omega) (by omega)).mono ?_
  rintro e v21 ⟨rfl, hbv21⟩
  replace hoo1 := own_below hoo1 hbv21 (Nat.le_refl _)
  replace hoo2 := own_below hoo2 hbv21 (Nat.le_refl _)
  replace hoo3 := own_below hoo3 hbv21 (Nat.le_refl _)
  replace hoo4 := own_below hoo4 hbv21 (Nat.le_refl _)
  replace hoo5 := own_below hoo5 hbv21 (Nat.le_refl _)
  replace hoo6 := own_below hoo6 hbv21 (Nat.le_refl _)
  replace hoo7 := own_below hoo7 hbv21 (Nat.le_refl _)
  replace hoo8 := own_below hoo8 hbv21 (Nat.le_refl _)
  replace hoo9 := own_below hoo9 hbv21 (Nat.le_refl _)
  replace hoo10 := own_below hoo10 hbv21 (Nat.le_refl _)
  replace hoo11 := own_below hoo11 hbv21 (Nat.le_refl _)
  replace HB := HB.trans (hbv21.mono HB.size)
  have hszv21 := hbv21.size
  go_wp2_with fail
  refine (toBoolS_any _ _ _ _ x0 (hr0.below HB (Nat.le_refl _)) (by omega)).mono ?_
  rintro e v22 ⟨Ao12, no12, co12, rfl, hoo12, hbv22⟩
  have hno12 : no12 ≤ 1048576 := by have := hoo12.1; simp at this; have := HXL0.out; omega
  replace hoo1 := own_below hoo1 hbv22 (Nat.le_refl _)
  replace hoo2 := own_below hoo2 hbv22 (Nat.le_refl _)
  replace hoo3 := own_below hoo3 hbv22 (Nat.le_refl _)
  replace hoo4 := own_below hoo4 hbv22 (Nat.le_refl _)
  replace hoo5 := own_below hoo5 hbv22 (Nat.le_refl _)
  replace hoo6 := own_below hoo6 hbv22 (Nat.le_refl _)
  replace hoo7 := own_below hoo7 hbv22 (Nat.le_refl _)
  replace hoo8 := own_below hoo8 hbv22 (Nat.le_refl _)
  replace hoo9 := own_below hoo9 hbv22 (Nat.le_refl _)
  replace hoo10 := own_below hoo10 hbv22 (Nat.le_refl _)
  replace hoo11 := own_below hoo11 hbv22 (Nat.le_refl _)
  replace HB := HB.trans (hbv22.mono HB.size)
  have hszv22 := hbv22.size
  have hrgo12 : Hid (∀ k, (Value.slice Ao12 no12 co12).ownBlock = some k → v21.heap.size ≤ k ∧ k < v22.heap.size) := Lib.hid fun k hk => hoo12.lt k hk
  go_wp2_with fail
  refine (toInt64S_any _ _ _ _ x1 (hr1.below HB (Nat.le_refl _)) (by omega)).mono ?_
  rintro e v23 ⟨Ao13, no13, co13, rfl, hoo13, hbv23⟩
  have hno13 : no13 ≤ 1048576 := by have := hoo13.1; simp at this; have := HXL1.out; omega
  replace hoo1 := own_below hoo1 hbv23 (Nat.le_refl _)
  replace hoo2 := own_below hoo2 hbv23 (Nat.le_refl _)
  replace hoo3 := own_below hoo3 hbv23 (Nat.le_refl _)
  replace hoo4 := own_below hoo4 hbv23 (Nat.le_refl _)
  replace hoo5 := own_below hoo5 hbv23 (Nat.le_refl _)
  replace hoo6 := own_below hoo6 hbv23 (Nat.le_refl _)
  replace hoo7 := own_below hoo7 hbv23 (Nat.le_refl _)
  replace hoo8 := own_below hoo8 hbv23 (Nat.le_refl _)
  replace hoo9 := own_below hoo9 hbv23 (Nat.le_refl _)
  replace hoo10 := own_below hoo10 hbv23 (Nat.le_refl _)
  replace hoo11 := own_below hoo11 hbv23 (Nat.le_refl _)
  replace hoo12 := own_below hoo12 hbv23 (Nat.le_refl _)
  replace HB := HB.trans (hbv23.mono HB.size)
  have hszv23 := hbv23.size
  have hrgo13 : Hid (∀ k, (Value.slice Ao13 no13 co13).ownBlock = some k → v22.heap.size ≤ k ∧ k < v23.heap.size) := Lib.hid fun k hk => hoo13.lt k hk
  go_wp2_with fail
  refine (toBoolS_any _ _ _ _ x2 (hr2.below HB (Nat.le_refl _)) (by omega)).mono ?_
  rintro e v24 ⟨Ao14, no14, co14, rfl, hoo14, hbv24⟩
  have hno14 : no14 ≤ 1048576 := by have := hoo14.1; simp at this; have := HXL2.out; omega
  replace hoo1 := own_below hoo1 hbv24 (Nat.le_refl _)
  replace hoo2 := own_below hoo2 hbv24 (Nat.le_refl _)
  replace hoo3 := own_below hoo3 hbv24 (Nat.le_refl _)
  replace hoo4 := own_below hoo4 hbv24 (Nat.le_refl _)
  replace hoo5 := own_below hoo5 hbv24 (Nat.le_refl _)
  replace hoo6 := own_below hoo6 hbv24 (Nat.le_refl _)
  replace hoo7 := own_below hoo7 hbv24 (Nat.le_refl _)
  replace hoo8 := own_below hoo8 hbv24 (Nat.le_refl _)
  replace hoo9 := own_below hoo9 hbv24 (Nat.le_refl _)
  replace hoo10 := own_below hoo10 hbv24 (Nat.le_refl _)
  replace hoo11 := own_below hoo11 hbv24 (Nat.le_refl _)
  replace hoo12 := own_below hoo12 hbv24 (Nat.le_refl _)
  replace hoo13 := own_below hoo13 hbv24 (Nat.le_refl _)
  replace HB := HB.trans (hbv24.mono HB.size)
  have hszv24 := hbv24.size
  have hrgo14 : Hid (∀ k, (Value.slice Ao14 no14 co14).ownBlock = some k → v23.heap.size ≤ k ∧ k < v24.heap.size) := Lib.hid fun k hk => hoo14.lt k hk
  go_wp2_with fail
  refine (HI.out _ _ _ _ (own_rd hoo12) (by omega) (own_cap hoo12) _ _ _ (own_rd hoo13) (by omega) (own_cap hoo13) _ _ _ (own_rd hoo14) (by omega) (own_cap hoo14)).mono ?_
  rintro e v25 ⟨Ao15, no15, co15, rfl, hoo15, hbv25⟩
  have hno15 : no15 ≤ 1000000 := by have := hoo15.1; simp at this; have := HRL0.out; omega
  replace hoo1 := own_below hoo1 hbv25 (Nat.le_refl _)
  replace hoo2 := own_below hoo2 hbv25 (Nat.le_refl _)
  replace hoo3 := own_below hoo3 hbv25 (Nat.le_refl _)
  replace hoo4 := own_below hoo4 hbv25 (Nat.le_refl _)
  replace hoo5 := own_below hoo5 hbv25 (Nat.le_refl _)
  replace hoo6 := own_below hoo6 hbv25 (Nat.le_refl _)
  replace hoo7 := own_below hoo7 hbv25 (Nat.le_refl _)
  replace hoo8 := own_below hoo8 hbv25 (Nat.le_refl _)
  replace hoo9 := own_below hoo9 hbv25 (Nat.le_refl _)
  replace hoo10 := own_below hoo10 hbv25 (Nat.le_refl _)
  replace hoo11 := own_below hoo11 hbv25 (Nat.le_refl _)
  replace hoo12 := own_below hoo12 hbv25 (Nat.le_refl _)
  replace hoo13 := own_below hoo13 hbv25 (Nat.le_refl _)
  replace hoo14 := own_below hoo14 hbv25 (Nat.le_refl _)
  replace HB := HB.trans (hbv25.mono HB.size)
  have hszv25 := hbv25.size
  have hrgo15 : Hid (∀ k, (Value.slice Ao15 no15 co15).ownBlock = some k → v24.heap.size ≤ k ∧ k < v25.heap.size) := Lib.hid fun k hk => hoo15.lt k hk
  go_wp2_with fail
  refine (eqB_same _ _ _ _ _ (own_rd hoo15) (by omega) _ _ _ (own_rd hoo4)).mono ?_
  rintro e v26 ⟨rfl, hbv26⟩
  replace hoo1 := own_below hoo1 hbv26 (Nat.le_refl _)
  replace hoo2 := own_below hoo2 hbv26 (Nat.le_refl _)
  replace hoo3 := own_below hoo3 hbv26 (Nat.le_refl _)
  replace hoo4 := own_below hoo4 hbv26 (Nat.le_refl _)
  replace hoo5 := own_below hoo5 hbv26 (Nat.le_refl _)
  replace hoo6 := own_below hoo6 hbv26 (Nat.le_refl _)
  replace hoo7 := own_below hoo7 hbv26 (Nat.le_refl _)
  replace hoo8 := own_below hoo8 hbv26 (Nat.le_refl _)
  replace hoo9 := own_below hoo9 hbv26 (Nat.le_refl _)
  replace hoo10 := own_below hoo10 hbv26 (Nat.le_refl _)
  replace hoo11 := own_below hoo11 hbv26 (Nat.le_refl _)
  replace hoo12 := own_below hoo12 hbv26 (Nat.le_refl _)
  replace hoo13 := own_below hoo13 hbv26 (Nat.le_refl _)
  replace hoo14 := own_below hoo14 hbv26 (Nat.le_refl _)
  replace hoo15 := own_below hoo15 hbv26 (Nat.le_refl _)
  replace HB := HB.trans (hbv26.mono HB.size)
  have hszv26 := hbv26.size
  go_wp2_with fail
  refine (heldBoolS_any _ _ _ _ (1) (own_rd hoo8) (by omega) (by omega) (by omega)).mono ?_
  rintro e v27 ⟨rfl, hbv27⟩
  replace hoo1 := own_below hoo1 hbv27 (Nat.le_refl _)
  replace hoo2 := own_below hoo2 hbv27 (Nat.le_refl _)
  replace hoo3 := own_below hoo3 hbv27 (Nat.le_refl _)
  replace hoo4 := own_below hoo4 hbv27 (Nat.le_refl _)
  replace hoo5 := own_below hoo5 hbv27 (Nat.le_refl _)
  replace hoo6 := own_below hoo6 hbv27 (Nat.le_refl _)
  replace hoo7 := own_below hoo7 hbv27 (Nat.le_refl _)
  replace hoo8 := own_below hoo8 hbv27 (Nat.le_refl _)
  replace hoo9 := own_below hoo9 hbv27 (Nat.le_refl _)
  replace hoo10 := own_below hoo10 hbv27 (Nat.le_refl _)
  replace hoo11 := own_below hoo11 hbv27 (Nat.le_refl _)
  replace hoo12 := own_below hoo12 hbv27 (Nat.le_refl _)
  replace hoo13 := own_below hoo13 hbv27 (Nat.le_refl _)
  replace hoo14 := own_below hoo14 hbv27 (Nat.le_refl _)
  replace hoo15 := own_below hoo15 hbv27 (Nat.le_refl _)
  replace HB := HB.trans (hbv27.mono HB.size)
  have hszv27 := hbv27.size
  go_wp2_with fail
  go_ret
  exact ⟨rfl, HB⟩
end Go.Proofs.Ytnfkmcphkecemaa
