/- Packages: opened, l24Open; IsPackage. -/
import Derived.Test.YtaadobggenbbdaaGreatDoorGH
namespace Go.Proofs.YtaadobggenbbdaaGreatDoor
open Go.RowKit
set_option linter.unusedVariables false
set_option linter.unusedSimpArgs false
def opOk : Tr → Bool
  | .nil => false
  | .node a _ => decide ((pot a).2 = 0)
def opProg : Tr → List Cmd
  | .nil => []
  | .node a _ => (pot a).1
def opData : Tr → List Bool
  | .nil => []
  | .node _ b => b.bits
def OpdP (w : World) (lo : Nat) (t : Tr) (e : Ending) (w' : World) : Prop :=
  ∃ A n c F p, e = .returned (.tuple #[.slice A n c, .pointer p, .bool (opOk t)]) ∧ OwnC w' F A n c (opProg t) ∧ (∀ k, F k → w.heap.size ≤ k ∧ k < w'.heap.size) ∧ IsT w' lo w'.heap.size (.pointer p) t.tl ∧ Below w.heap.size w w'
set_option maxHeartbeats 2000000 in
theorem opened_any (w : World) (lo : Nat) (v : Value) (t : Tr) (h : IsT w lo w.heap.size v t) (hlo : lo ≤ w.heap.size) (hn : t.nodes ≤ 1000000) : Calls Tryz.prog 85 #[v] w (OpdP w lo t) := by
  rcases h.ptr with ⟨rfl, rfl⟩ | ⟨b, vh, vt, a, d, rfl, rfl, hb1, hb2, c0, c1, c2, hh, ht⟩
  · go_enter Tryz.func85, Tryz.ntmps85
    go_wp2_with fail
    go_ret3
    exact ⟨none, 0, 0, fun _ => False, none, rfl, OwnC.nil _, by simp, nilT _ _ _, Below.refl _ _⟩
  · obtain ⟨o1, rfl⟩ := hh.isPtr
    obtain ⟨o2, rfl⟩ := ht.isPtr
    have hna : a.nodes ≤ 1000000 := by simp only [Tr.nodes] at hn; omega
    have HOK : Hid (opOk (.node a d) = decide ((pot a).2 = 0)) := Lib.hid rfl
    have HPR : Hid (opProg (.node a d) = (pot a).1) := Lib.hid rfl
    have HTL : Hid ((Tr.node a d).tl = d) := Lib.hid rfl
    clear c2 h
    go_enter Tryz.func85, Tryz.ntmps85
    go_wp2_with fail
    refine (programOfTree_any _ lo _ a hh hlo hna).mono ?_
    rintro e w2 ⟨A2, n2, c2, F2, rfl, ho2, hF2, hb3⟩
    have q1 := (hb3.cell (p := ⟨b, 1, none⟩) hb2).trans c1
    have ht2 := ht.up hb3
    generalize hp : pot a = r at *
    obtain ⟨rl, rc⟩ := r
    clear c0 c1 hp
    go_wp2_with fail
    go_quiet (fail)
    go_wp2_with fail
    go_ret3
    exact ⟨A2, n2, c2, F2, o2, by rw [HOK.out]; rfl, by rw [HPR.out]; exact ho2, hF2, by rw [HTL.out]; exact IsT.keep (w := w2) (w' := w2.drewN nq) (fun _ _ _ => rfl) ht2, below_drewN hb3⟩
def SopP (w : World) (t : Tr) (e : Ending) (w' : World) : Prop :=
  ∃ A n c F A' n' c', e = .returned (.tuple #[.slice A n c, .slice A' n' c', .bool (opOk t)]) ∧ OwnC w' F A n c (opProg t) ∧ (∀ k, F k → w.heap.size ≤ k ∧ k < w'.heap.size) ∧ w'.ownsRow w.heap.size 4 1 (.slice A' n' c') n' (bools (opData t)) ∧ (∀ k, F k → Fo (.slice A' n' c') k → False) ∧ Below w.heap.size w w'
set_option maxHeartbeats 2000000 in
theorem l24Open_any (w : World) (A : Option Addr) (n c : Nat) (t : Tr) (hr : Rd w A n (bools t.bits)) (hn : t.nodes ≤ 2000) (hnc : n ≤ c) : Calls Tryz.prog 51 #[.slice A n c] w (SopP w t) := by
  have hnn : n ≤ 2000 := by have := hr.1; simp [Tr.bits_len] at this; omega
  have hp : 0 < n := by have := hr.1; have := t.nodes_pos; simp [Tr.bits_len] at *; omega
  cases t with
  | nil =>
    obtain ⟨blk, off, rfl, hbs, q0⟩ := hr.at_ (k := 0) (u := .bool false) rfl
    simp only [Nat.add_zero] at q0
    go_enter Tryz.func51, Tryz.ntmps51
    go_wp2_with fail
    go_ret3
    exact ⟨none, 0, 0, fun _ => False, none, 0, 0, rfl, OwnC.nil _, by simp, own_nil _ _ _, by simp, Below.refl _ _⟩
  | node a d =>
    obtain ⟨blk, off, hA, hbs, q0⟩ := hr.at_ (k := 0) (u := .bool true) rfl
    subst hA
    simp only [Nat.add_zero] at q0
    have hna : a.nodes ≤ 2000 := by simp only [Tr.nodes] at hn; omega
    have HOK : Hid (opOk (.node a d) = decide ((pot a).2 = 0)) := Lib.hid rfl
    have HPR : Hid (opProg (.node a d) = (pot a).1) := Lib.hid rfl
    have HDT : Hid (opData (.node a d) = d.bits) := Lib.hid rfl
    have HDW := Lib.hid (dew_tr hna)
    go_enter Tryz.func51, Tryz.ntmps51
    go_wp2_with fail
    refine (l21Head_any _ _ _ _ _ hr (by omega) hnc).mono ?_
    rintro e w2 ⟨A2, n2, c2, rfl, ho2, hb2⟩
    replace ho2 : w2.ownsRow w.heap.size 4 1 (.slice A2 n2 c2) n2 (bools a.bits) := ho2
    have hn2 : n2 ≤ 2000 := by have := ho2.1; simp [Tr.bits_len] at this; omega
    have hr2 := hr.below hb2 (Nat.le_refl _)
    go_wp2_with fail
    refine (specDecodeWhile_any _ _ _ _ _ (own_rd ho2) (by omega) (ownN_cap ho2)).mono ?_
    rw [HDW.out]
    rintro e w3 ⟨A3, n3, c3, F3, rfl, ho3, hF3, hb3⟩
    have hr3 := hr2.below hb3 (Nat.le_refl _)
    have HB3 := Lib.hid (hb2.trans (hb3.mono hb2.size))
    generalize hpp : pot a = r at *
    obtain ⟨rl, rc⟩ := r
    clear hpp q0
    go_wp2_with fail
    refine (l21Tail_any _ _ _ _ _ hr3 (by omega) hnc).mono ?_
    rintro e w4 ⟨A4, n4, c4, rfl, ho4, hb4⟩
    replace ho4 : w4.ownsRow w3.heap.size 4 1 (.slice A4 n4 c4) n4 (bools d.bits) := ho4
    have hn4 : n4 ≤ 2000 := by have := ho4.1; simp only [Tr.nodes] at hn; simp [Tr.bits_len] at this; omega
    go_wp2_with fail
    refine (l21Own_any _ _ _ _ _ (own_rd ho4) (by omega)).mono ?_
    rintro e w5 ⟨A5, n5, c5, rfl, ho5, hb5⟩
    go_wp2_with fail
    go_ret3
    have hs2 := hb2.size
    have hs4 := hb4.size
    have hs5 := hb5.size
    have hs3 := HB3.out.size
    exact ⟨A3, n3, c3, F3, A5, n5, c5, by rw [HOK.out]; rfl, by rw [HPR.out]; exact (ho3.below hb4).below hb5, fun k hk => by have := hF3 k hk; omega, by rw [HDT.out]; exact own_base ho5 (by omega), fun k h1 h2 => by have := hF3 k h1; have := (ho5.lt k h2).1; omega, (HB3.out.trans (hb4.mono hs3)).trans (hb5.mono (by omega))⟩
def isPkg (bs : List Bool) : Bool := isTr bs && opOk (treeB bs)
theorem isPkg_no {bs : List Bool} (h : isTr bs = false) : isPkg bs = false := by simp [isPkg, h]
theorem isPkg_tr {t : Tr} (h : t.nodes ≤ 2000) : isPkg t.bits = opOk t := by simp [isPkg, isTr_bits h, treeB_bits]
end Go.Proofs.YtaadobggenbbdaaGreatDoor
