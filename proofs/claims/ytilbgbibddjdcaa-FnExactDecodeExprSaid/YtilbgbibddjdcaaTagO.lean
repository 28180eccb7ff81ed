/- The reference's tag of a tree, and an item's two parts. -/
import Derived.Test.YtilbgbibddjdcaaHdS
namespace Go.Proofs.Ytilbgbibddjdcaa
open Go.RowKit
set_option linter.unusedVariables false
set_option linter.unusedSimpArgs false
def tagI (t : Tr) : Int := match (List.range 12).find? (fun k => t.beq (tagTr k)) with
  | some k => k
  | none => -1
theorem tagI_hit {t : Tr} {k : Nat} (hk : k ≤ 11) (h : t.beq (tagTr k) = true) : tagI t = k := by
  unfold tagI
  cases hf : (List.range 12).find? (fun k => t.beq (tagTr k)) with
  | none =>
    rw [List.find?_eq_none] at hf
    exact absurd h (hf k (List.mem_range.2 (by omega)))
  | some j =>
    have h1 := List.find?_some hf
    have h2 := List.mem_range.1 (List.mem_of_find?_eq_some hf)
    have e1 := (Tr.beq_iff _ _).1 h
    have e2 := (Tr.beq_iff _ _).1 h1
    have := tag_inj (j := j) (k := k) (by omega) hk (e2.symm.trans e1)
    subst this
    rfl
theorem tagI_miss {t : Tr} (h : ∀ k, k ≤ 11 → t.beq (tagTr k) = false) : tagI t = -1 := by
  unfold tagI
  cases hf : (List.range 12).find? (fun k => t.beq (tagTr k)) with
  | none => rfl
  | some j =>
    have h1 := List.find?_some hf
    have h2 := List.mem_range.1 (List.mem_of_find?_eq_some hf)
    rw [h j (by omega)] at h1
    cases h1
theorem tagI_eq {t : Tr} {k : Nat} (hk : k ≤ 11) : (tagI t == (k : Int)) = t.beq (tagTr k) := by
  cases h : t.beq (tagTr k) with
  | true => rw [tagI_hit hk h]; simp
  | false =>
    cases hq : (tagI t == (k : Int)) with
    | false => rfl
    | true =>
      have e : tagI t = (k : Int) := by simpa using hq
      unfold tagI at e
      cases hf : (List.range 12).find? (fun k => t.beq (tagTr k)) with
      | none => rw [hf] at e; exact absurd e (by show ¬ (-1 : Int) = (k : Int); omega)
      | some j =>
        rw [hf] at e
        have h1 := List.find?_some hf
        have : j = k := by simp at e; omega
        subst this
        rw [h] at h1
        cases h1
theorem tagI_bd (t : Tr) : -1 ≤ tagI t ∧ tagI t ≤ 11 := by
  unfold tagI
  cases hf : (List.range 12).find? (fun k => t.beq (tagTr k)) with
  | none => simp
  | some j =>
    have h2 := List.mem_range.1 (List.mem_of_find?_eq_some hf)
    simp only
    omega
theorem bits_beq (t u : Tr) : decide (t.bits = u.bits) = t.beq u := by
  cases h : t.beq u with
  | true => rw [(Tr.beq_iff _ _).1 h]; simp
  | false =>
    simp only [decide_eq_false_iff_not]
    intro e
    rw [bits_inj e, Tr.beq_self] at h
    cases h
set_option maxHeartbeats 1600000 in
theorem l23TagOf_any (w : World) (A : Option Addr) (n c : Nat) (t : Tr) (hr : Rd w A n (bools t.bits)) (hn : n ≤ 1000000000) : Calls Try.prog 146 #[.slice A n c] w (RetV w (.int .i64 (tagI t))) := by
  go_enter Try.func146, Try.ntmps146
  go_wp2_with fail
  go_loopw [3] (fun q wr => ∃ k : Nat, k ≤ 12 ∧ q = .int .i64 k ∧ Hid (∀ j, j < k → t.beq (tagTr j) = false) ∧ Below w.heap.size w wr) (fun q _ => 12 - (intOf q).toNat)
  case atStart => exact ⟨0, by omega, rfl, Lib.hid (fun j hj => by omega), Below.refl _ _⟩
  case round =>
    obtain ⟨k, hk, rfl, HM, hb⟩ := hrel
    by_cases hlt : k < 12
    · have hlt' : (k : Int) ≤ 11 := by omega
      have hr2 := hr.below hb (Nat.le_refl _)
      cases hq : t.beq (tagTr k) with
      | true =>
        have HQ : Hid (decide (t.bits = (tagTr k).bits) = true) := Lib.hid (by rw [bits_beq, hq])
        have HT := Lib.hid (tagI_hit (by omega) hq)
        clear hq
        go_wp2_with fail
        refine (l23Tag_any _ k (by omega) _ rfl).mono ?_
        rintro e w2 ⟨A2, n2, c2, rfl, ho2, hb2⟩
        have hn2 : n2 ≤ 9 := by have h1 := ho2.1; have h2 := tag_nodes k; simp [Tr.bits_len] at h1; omega
        go_wp2_with fail
        refine (l21Same_any _ _ _ _ _ (hr2.below hb2 (Nat.le_refl _)) hn _ _ _ _ (own_rd ho2) (by omega)).mono ?_
        rw [HQ.out]
        rintro e w3 ⟨rfl, hb3⟩
        go_wp2_with fail
        go_ret
        exact ⟨by rw [HT.out]; rfl, (hb.trans (hb2.mono hb.size)).trans (hb3.mono (Nat.le_trans hb.size hb2.size))⟩
      | false =>
        have HQ : Hid (decide (t.bits = (tagTr k).bits) = false) := Lib.hid (by rw [bits_beq, hq])
        have HM2 : Hid (∀ j, j < k + 1 → t.beq (tagTr j) = false) := Lib.hid (fun j hj => by
          rcases Nat.lt_succ_iff_lt_or_eq.1 hj with h | rfl
          · exact HM.out j h
          · exact hq)
        clear hq
        go_wp2_with fail
        refine (l23Tag_any _ k (by omega) _ rfl).mono ?_
        rintro e w2 ⟨A2, n2, c2, rfl, ho2, hb2⟩
        have hn2 : n2 ≤ 9 := by have h1 := ho2.1; have h2 := tag_nodes k; simp [Tr.bits_len] at h1; omega
        go_wp2_with fail
        refine (l21Same_any _ _ _ _ _ (hr2.below hb2 (Nat.le_refl _)) hn _ _ _ _ (own_rd ho2) (by omega)).mono ?_
        rw [HQ.out]
        rintro e w3 ⟨rfl, hb3⟩
        go_wp2_with fail
        go_roundw
        case rel => exact ⟨k + 1, by omega, by go_num, HM2, (hb.trans (hb2.mono hb.size)).trans (hb3.mono (Nat.le_trans hb.size hb2.size))⟩
        case measure => simp [intOf]; omega
    · obtain rfl : k = 12 := by omega
      have HT := Lib.hid (tagI_miss (t := t) (fun j hj => HM.out j (by omega)))
      go_wp2_with fail
      go_ret
      exact ⟨by rw [HT.out]; rfl, hb⟩
def opTag : Tr → Int
  | .nil => -1
  | .node a _ => tagI a
def opRest : Tr → List Bool
  | .nil => []
  | .node _ b => b.bits
def OpnP (w : World) (t : Tr) (e : Ending) (w' : World) : Prop := ∃ A n c, e = .returned (.tuple #[.int .i64 (opTag t), .slice A n c]) ∧ w'.ownsRow w.heap.size 4 1 (.slice A n c) n (bools (opRest t)) ∧ Below w.heap.size w w'
set_option maxHeartbeats 1600000 in
theorem l23Open_any (w : World) (A : Option Addr) (n c : Nat) (t : Tr) (hr : Rd w A n (bools t.bits)) (hn : n ≤ 1000000000) (hnc : n ≤ c) : Calls Try.prog 126 #[.slice A n c] w (OpnP w t) := by
  have hl : n = t.nodes := by have := hr.1; simp [Tr.bits_len] at this; exact this.symm
  have hpos := t.nodes_pos
  cases t with
  | nil =>
    obtain ⟨blk, off, rfl, hbs, hc⟩ := hr.at_ (k := 0) (u := .bool false) rfl
    simp only [Nat.add_zero] at hc
    have hn0 : 0 < n := by omega
    clear hl hpos
    go_enter Try.func126, Try.ntmps126
    go_wp2_with fail
    go_ret2
    exact ⟨none, 0, 0, rfl, own_nil _ _ _, Below.refl _ _⟩
  | node a b =>
    obtain ⟨blk, off, rfl, hbs, hc⟩ := hr.at_ (k := 0) (u := .bool true) rfl
    simp only [Nat.add_zero] at hc
    have hn0 : 0 < n := by omega
    have hna : a.nodes ≤ n := by rw [hl]; simp only [Tr.nodes]; omega
    have HT : Hid (opTag (.node a b) = tagI a) := Lib.hid rfl
    clear hl hpos
    go_enter Try.func126, Try.ntmps126
    go_wp2_with fail
    refine (l21Head_any _ _ _ _ _ hr hn hnc).mono ?_
    rintro e w2 ⟨A2, n2, c2, rfl, ho2, hb2⟩
    have hn2 : n2 ≤ n := by have h1 := ho2.1; simp [Tr.bits_len, Tr.hd] at h1; omega
    go_wp2_with fail
    refine (l23TagOf_any _ _ _ _ a (own_rd ho2) (by omega)).mono ?_
    rintro e w3 ⟨rfl, hb3⟩
    have hb23 := hb2.trans (hb3.mono hb2.size)
    rw [← HT.out]
    go_wp2_with fail
    refine (l21Tail_any _ _ _ _ _ (hr.below hb23 (Nat.le_refl _)) hn hnc).mono ?_
    rintro e w4 ⟨A4, n4, c4, rfl, ho4, hb4⟩
    go_wp2_with fail
    go_ret2
    exact ⟨A4, n4, c4, rfl, own_base ho4 hb23.size, hb23.trans (hb4.mono hb23.size)⟩
end Go.Proofs.Ytilbgbibddjdcaa
