/- The mirror of a tree of pointers; the bits of a tree of pointers. -/
import Derived.Test.YtnfkmcphkecemaaTreeP
namespace Go.Proofs.Ytnfkmcphkecemaa
open Go.RowKit

def RetTr (w : World) (lo : Nat) (t : Tr) (en : Ending) (w' : World) : Prop := ∃ v, en = .returned v ∧ IsT w' lo w'.heap.size v t ∧ Below w.heap.size w w'

theorem tr_half {h t : Tr} {N : Nat} (hn : (Tr.node h t).nodes ≤ N) : h.nodes ≤ N ∧ t.nodes ≤ N := by
  simp only [Tr.nodes] at hn; exact ⟨by omega, by omega⟩

set_option maxHeartbeats 800000 in
theorem mirror_any : ∀ (t : Tr) (w : World) (lo : Nat) (v : Value), IsT w lo w.heap.size v t → lo ≤ w.heap.size → t.nodes ≤ 1000000000 →
    Calls Try.prog 43 #[v] w (RetTr w lo t.mirror) := by
  intro t
  induction t with
  | nil =>
    intro w lo v h _ _
    obtain rfl : v = .pointer none := h
    go_enter Try.func43, Try.ntmps43
    go_wp2_with fail
    go_ret
    exact ⟨_, rfl, rfl, Below.refl _ _⟩
  | node l r ihl ihr =>
    intro w lo v h hlo hn
    obtain ⟨hnl, hnr⟩ := tr_half hn
    rcases h.ptr with ⟨_, h0⟩ | ⟨b, vh, vt, h', t', rfl, ht, hb1, hb2, c0, c1, c2, hh, ht2⟩
    · cases h0
    cases ht
    obtain ⟨o1, rfl⟩ := hh.isPtr
    obtain ⟨o2, rfl⟩ := ht2.isPtr
    have HL := Lib.hid ihl; have HR := Lib.hid ihr
    clear ihl ihr h hn c2
    go_enter Try.func43, Try.ntmps43
    go_wp2_with fail
    go_region_held3 (fun w' => w'.cell? ⟨b, 0, none⟩ = some (.pointer o1) ∧ w'.cell? ⟨b, 1, none⟩ = some (.pointer o2)) (exact ⟨c0, c1⟩) (first
      | (go_at_call 43
         refine (HR.out _ lo _ (by first | exact ht2.drew | exact ht2) (by exact hlo) hnr).mono ?_
         rintro e w3 ⟨v3, rfl, h3, hb3⟩
         obtain ⟨o3, rfl⟩ := h3.isPtr
         (try replace hb3 := below_undrew hb3)
         have c0 := (hb3.cell (p := ⟨b, 0, none⟩) hb2).trans c0
         have c1 := (hb3.cell (p := ⟨b, 1, none⟩) hb2).trans c1
         have hh3 := (hh.below hb3 (Nat.le_refl _)).wide (Nat.le_refl _) hb3.size
         have hlo3 := Nat.le_trans hlo hb3.size)
      | (go_at_call 43
         refine (HL.out _ lo _ (by first | exact hh3.drew | exact hh3) (by exact hlo3) hnl).mono ?_
         rintro e w4 ⟨v4, rfl, h4, hb4⟩
         obtain ⟨o4, rfl⟩ := h4.isPtr
         (try replace hb4 := below_undrew hb4)
         have h34 := (h3.below hb4 (Nat.le_refl _)).wide (Nat.le_refl _) hb4.size
         have c0 := (hb4.cell (p := ⟨b, 0, none⟩) (Nat.lt_of_lt_of_le hb2 hb3.size)).trans c0
         have c1 := (hb4.cell (p := ⟨b, 1, none⟩) (Nat.lt_of_lt_of_le hb2 hb3.size)).trans c1)
      | (go_at_call 68
         refine (pair_any _ lo _ _ _ _ (by first | exact h34.drew | exact h34) (by first | exact h4.drew | exact h4) (by exact Nat.le_trans hlo3 hb4.size) (by rw [Tr.mirror_nodes]; exact hnr) (by rw [Tr.mirror_nodes]; exact hnl)).mono ?_
         rintro e w5 ⟨v5, rfl, h5, hb5⟩
         obtain ⟨o5, rfl⟩ := h5.isPtr
         (try replace hb5 := below_undrew hb5)
         have c0 := (hb5.cell (p := ⟨b, 0, none⟩) (Nat.lt_of_lt_of_le (Nat.lt_of_lt_of_le hb2 hb3.size) hb4.size)).trans c0
         have c1 := (hb5.cell (p := ⟨b, 1, none⟩) (Nat.lt_of_lt_of_le (Nat.lt_of_lt_of_le hb2 hb3.size) hb4.size)).trans c1))
    go_wp2_with fail
    go_ret
    exact ⟨_, rfl, h5, (hb3.trans (hb4.mono hb3.size)).trans (hb5.mono (Nat.le_trans hb3.size hb4.size))⟩
end Go.Proofs.Ytnfkmcphkecemaa
