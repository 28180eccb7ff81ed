/- MirrorTree: the reference's function and the program's give the same bits and code. -/
import Derived.Test.YtnfkmcphkecemaaTreeV
namespace Go.Proofs.Ytnfkmcphkecemaa
open Go.RowKit

def mirB (bs : List Bool) : List Bool := if isTr bs then ((forest bs).headD .nil).mirror.bits else []
def mirC (bs : List Bool) : Int := if isTr bs then 0 else 1
theorem mirB_tree {t : Tr} (h : t.nodes ≤ 2000) : mirB t.bits = t.mirror.bits ∧ mirC t.bits = 0 := by
  simp [mirB, mirC, isTr_bits h, forest_bits]
theorem mirB_not {bs : List Bool} (h : isTr bs = false) : mirB bs = [] ∧ mirC bs = 1 := by simp [mirB, mirC, h]
theorem mirB_len (bs : List Bool) : (mirB bs).length ≤ 1000000 := by
  by_cases h : isTr bs = true
  · obtain ⟨t, rfl, ht⟩ := isTr_tree h
    rw [(mirB_tree ht).1, Tr.bits_len, Tr.mirror_nodes]; omega
  · rw [(mirB_not (by simpa using h)).1]; simp

set_option maxHeartbeats 800000 in
theorem implMirrorTree_any (w : World) (A : Option Addr) (n c : Nat) (bs : List Bool) (hr : Rd w A n (bools bs)) (hn : n ≤ 1099511627776) :
    Calls Try.prog 13 #[.slice A n c] w (RetSI w 4 (bools (mirB bs)) (mirC bs)) := by
  have hch : Calls Try.prog 42 #[.slice A n c, .func (.func 43) #[] #[]] w (RetSI w 4 (bools (mirB bs)) (mirC bs)) := by
    by_cases h : isTr bs = true
    · obtain ⟨t, rfl, ht⟩ := isTr_tree h
      have HM := Lib.hid (mirB_tree ht)
      have HLN : Hid (t.nodes = n) := Lib.hid (by have := hr.1; simp [Tr.bits_len] at this; exact this)
      have hn2 : n ≤ 2000 := by rw [← HLN.out]; exact ht
      have HT := Lib.hid ht
      clear ht
      go_enter Try.func42, Try.ntmps42
      go_wp2_with (first
        | (go_at_call 26; go_must (refine (IsTree_any _ _ _ _ _ hr hn).mono ?_; rw [h]; rintro e w' ⟨rfl, rfl⟩))
        | (go_at_call 48; go_must (refine (treeOf_any _ _ _ _ t hr (by omega)).mono ?_; rintro e w2 ⟨v2, rfl, h2, hb2⟩; obtain ⟨o2, rfl⟩ := h2.isPtr))
        | (go_at_call 43; go_must (refine (mirror_any t _ _ _ h2 hb2.size (by have := HT.out; omega)).mono ?_; rintro e w3 ⟨v3, rfl, h3, hb3⟩; obtain ⟨o3, rfl⟩ := h3.isPtr))
        | (go_at_call 50; go_must (refine (checked_any _ _ _ _ h3 (by rw [Tr.mirror_nodes]; have := HT.out; omega)).mono ?_; rw [Tr.mirror_nodes, if_pos HT.out, if_pos HT.out]; rintro e w4 ⟨A4, n4, c4, rfl, ho4, hb4⟩)))
      go_ret2
      rw [HM.out.1, HM.out.2]
      exact ⟨A4, n4, c4, rfl, own_base ho4 (Nat.le_trans hb2.size hb3.size), (hb2.trans (hb3.mono hb2.size)).trans (hb4.mono (Nat.le_trans hb2.size hb3.size))⟩
    · have h' : isTr bs = false := by simpa using h
      have HM := Lib.hid (mirB_not h')
      clear h
      go_enter Try.func42, Try.ntmps42
      go_wp2_with (go_at_call 26; go_must (refine (IsTree_any _ _ _ _ _ hr hn).mono ?_; rw [h']; rintro e w' ⟨rfl, rfl⟩))
      go_ret2
      rw [HM.out.1, HM.out.2]
      exact ⟨none, 0, 0, rfl, own_nil _ _ _, Below.refl _ _⟩
  have HC := Lib.hid hch
  clear hch
  go_enter Try.func13, Try.ntmps13
  go_wp2_with (go_at_call 42; go_must (refine HC.out.mono ?_; rintro e w2 ⟨A2, n2, c2, rfl, ho2, hb2⟩))
  go_ret2
  exact ⟨A2, n2, c2, rfl, ho2, hb2⟩
end Go.Proofs.Ytnfkmcphkecemaa
