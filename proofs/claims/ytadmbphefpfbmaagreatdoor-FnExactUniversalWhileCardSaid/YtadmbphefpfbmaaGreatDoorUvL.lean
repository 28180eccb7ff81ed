/- The universal program: strings.Replacer: a key is found in the trie. -/
import Derived.Test.YtadmbphefpfbmaaGreatDoorUvO
import Derived.Test.YtadmbphefpfbmaaGreatDoorUvR
namespace Go.Proofs.YtadmbphefpfbmaaGreatDoor
open Go.RowKit
set_option linter.unusedVariables false
set_option linter.unusedSimpArgs false
attribute [local go_sem ↓] Go.wp_at_zero Go.wp_at_succ
/-- A way down the trie: from the root at nd 0 by the bytes of a text to a key's node at nd m. -/
structure Way (w : World) (r m : Nat) (nd tb ix : Nat → Nat) (t : ByteArray) (v : ByteArray) (p : Int) : Prop where
  root : nd 0 = r
  mt : m ≤ t.size
  pr : ∀ j, j < m → w.cell? ⟨nd j, 1, none⟩ = some (.int .i64 0)
  tab : ∀ j, j < m → w.cell? ⟨nd j, 4, none⟩ = some (.slice (some ⟨tb j, 0, none⟩) 4 4)
  sz : w.cell? ⟨r, 5, none⟩ = some (.int .i64 4)
  ix4 : ∀ j, j < m → ix j < 4
  byte : ∀ j x, j < m → (nm t)[j]? = some x → w.cell? ⟨r, 6 + x, none⟩ = some (.int .u8 (ix j : Int))
  next : ∀ j, j < m → w.cell? ⟨tb j, ix j, none⟩ = some (ptr (nd (j + 1)))
  pos : 0 < p
  leaf0 : w.cell? ⟨nd m, 0, none⟩ = some (.string v)
  leaf1 : w.cell? ⟨nd m, 1, none⟩ = some (.int .i64 p)
  leaf2 : w.cell? ⟨nd m, 2, none⟩ = some (.string noB)
  leaf4 : w.cell? ⟨nd m, 4, none⟩ = some noS
theorem dN_dN (w : World) (a b : Nat) : (w.drewN a).drewN b = w.drewN (a + b) := by
  simp [World.drewN, Nat.add_assoc]
theorem drop_cons' {α : Type} {l : List α} {m : Nat} {b : α} (h : l[m]? = some b) : l.drop m = b :: l.drop (m + 1) := by
  obtain ⟨hm, rfl⟩ := List.getElem?_eq_some_iff.1 h
  rw [List.drop_eq_getElem_cons hm]
theorem nm_drop (t : ByteArray) (j : Nat) : nm (t.extract j t.size) = (nm t).drop j := by
  simp [nm]
  rw [List.take_of_length_le]
  simp
theorem nm_ne {s : ByteArray} {x : Nat} {l : List Nat} (h : nm s = x :: l) : s.toList.isEmpty = false ∧ ∃ h0 : 0 < s.size, s[0].toNat = x := by
  have hs : 0 < s.size := by rw [← nm_size, h]; simp
  refine ⟨?_, hs, ?_⟩
  · obtain ⟨⟨l⟩⟩ := s
    cases l with
    | nil => simp [nm] at h
    | cons a b => exact lit_ne a b
  · obtain ⟨y, hy, ey, _⟩ := nm_at hs
    rw [h] at hy
    simp only [List.getElem?_cons_zero, Option.some.injEq] at hy
    rw [ey, hy]
theorem nm_empty {s : ByteArray} (h : nm s = []) : s.toList.isEmpty = true := by
  obtain ⟨⟨l⟩⟩ := s
  cases l with
  | nil => simp
  | cons a b => simp [nm] at h
set_option maxRecDepth 100000 in
set_option maxHeartbeats 8000000 in
theorem lookup_any (w : World) (r m : Nat) (nd tb ix : Nat → Nat) (t v : ByteArray) (p : Int) (hm : 1 ≤ m) (hmb : m ≤ 100) (ht : t.size ≤ 1000000) (h : Way w r m nd tb ix t v p) :
    Calls Tryz.prog 284 #[ptr r, .string t, .bool false] w fun e w' => e = .returned (.tuple #[.string v, .int .i64 (m : Int), .bool true]) ∧ ∃ n, w' = w.drewN n := by
  have HW := Lib.hid h
  have HMM : Hid (1 ≤ m ∧ m ≤ 100 ∧ m ≤ t.size ∧ t.size ≤ 1000000) := Lib.hid ⟨hm, hmb, h.mt, ht⟩
  clear h hm hmb ht
  go_enter Tryz.func284, Tryz.ntmps284
  go_upto_region 4 with fail
  go_loopw [1, 6, 7, 8, 9, 10, 11] (fun v1 v6 v7 v8 v9 v10 v11 wr => ∃ (j a k : Nat) (s : ByteArray), j ≤ m ∧ v1 = .string s ∧ v6 = .string noB ∧ v7 = .int .i64 0 ∧ v8 = .bool false ∧ v9 = .int .i64 0 ∧ v10 = ptr a ∧ v11 = .int .i64 (j : Int) ∧ Hid (a = nd j) ∧ Hid (nm s = (nm t).drop j) ∧ Hid (wr = w.drewN k)) (fun _ _ _ _ _ _ v _ => m + 1 - (intOf v).toNat)
  case atStart => exact ⟨0, r, 0, t, by omega, rfl, rfl, rfl, rfl, rfl, rfl, rfl, Lib.hid HW.out.root.symm, Lib.hid rfl, Lib.hid rfl⟩
  case round =>
    obtain ⟨j, a, k, s, hj, rfl, rfl, rfl, rfl, rfl, rfl, rfl, HA, HS, HK⟩ := hrel
    by_cases hlt : j < m
    · as_aux_lemma =>
      have HJM := Lib.hid hlt
      obtain ⟨x, hx⟩ : ∃ x, (nm t)[j]? = some x := ⟨_, List.getElem?_eq_getElem (by rw [nm_size]; have := HMM.out; omega)⟩
      have hsn : nm s = x :: (nm t).drop (j + 1) := by rw [HS.out]; exact drop_cons' hx
      obtain ⟨hne, h0, e0⟩ := nm_ne hsn
      have HS1 : Hid (nm (s.extract 1 s.size) = (nm t).drop (j + 1)) := Lib.hid (by rw [nm_drop, hsn]; rfl)
      have hss : (0 : Int) < (s.size : Int) := by omega
      have hs1 : (1 : Int) ≤ (s.size : Int) := by omega
      have hs1n : 1 ≤ s.size := h0
      have e0' : ((s[0]'h0).toNat : Int) = (x : Int) := by rw [e0]
      have x1 : wr.cell? ⟨a, 1, none⟩ = some (.int .i64 0) := by rw [HK.out, HA.out]; exact HW.out.pr j hlt
      have x4 : wr.cell? ⟨a, 4, none⟩ = some (.slice (some ⟨tb j, 0, none⟩) 4 4) := by rw [HK.out, HA.out]; exact HW.out.tab j hlt
      have x5 : wr.cell? ⟨r, 5, none⟩ = some (.int .i64 4) := by rw [HK.out]; exact HW.out.sz
      obtain ⟨y, hy⟩ : ∃ y, y = ix j := ⟨_, rfl⟩
      have hy4 : y < 4 := by rw [hy]; exact HW.out.ix4 j hlt
      have xm : wr.cell? ⟨r, 6 + x, none⟩ = some (.int .u8 (y : Int)) := by rw [HK.out, hy]; exact HW.out.byte j x hlt hx
      have xt : wr.cell? ⟨tb j, y, none⟩ = some (ptr (nd (j + 1))) := by rw [HK.out, hy]; exact HW.out.next j hlt
      have hx0 : (0 : Int) ≤ (x : Int) := by omega
      have hx2 : (x : Int) < 256 := by obtain ⟨q, _, e1, e2⟩ := nm_at h0; rw [e0] at e1; omega
      have hy0 : (0 : Int) ≤ (y : Int) := by omega
      have hy4i : (y : Int) < 4 := by omega
      have hyn : ¬ (y : Int) = 4 := by omega
      have hyb : ((y : Int) == 4) = false := by rw [beq_eq_false_iff_ne]; exact hyn
      have hwy : IntKind.i64.wrap (y : Int) = (y : Int) := IntWalk.i64_in _ (by omega)
      have hj9 : j ≤ 100 := by have := HMM.out; omega
      clear hlt hx hsn hy e0
      go_wp2_with fail
      go_quiet (fail)
      have hr2 : ∃ k', wr.drewN nq = w.drewN k' := ⟨k + nq, by rw [HK.out]; exact dN_dN _ _ _⟩
      obtain ⟨k', hk'⟩ := hr2
      have HK2 := Lib.hid hk'
      have HSX : Hid (nm (s.extract 1 s.size) = (nm t).drop (j + 1)) := HS1
      clear hk'
      go_wp2_with fail
      go_roundw
      case rel => exact ⟨j + 1, nd (j + 1), k', s.extract 1 s.size, by have := HJM.out; omega, rfl, rfl, rfl, rfl, rfl, rfl, by go_num, Lib.hid rfl, HSX, HK2⟩
      case measure => have := HJM.out; simp [intOf]; omega
    · obtain rfl : j = m := by omega
      have hp := HW.out.pos
      have hp2 : ¬ p ≤ 0 := by omega
      have x0 : wr.cell? ⟨a, 0, none⟩ = some (.string v) := by rw [HK.out, HA.out]; exact HW.out.leaf0
      have x1 : wr.cell? ⟨a, 1, none⟩ = some (.int .i64 p) := by rw [HK.out, HA.out]; exact HW.out.leaf1
      have x2 : wr.cell? ⟨a, 2, none⟩ = some (.string ⟨#[]⟩) := by rw [HK.out, HA.out]; exact HW.out.leaf2
      have x4 : wr.cell? ⟨a, 4, none⟩ = some (.slice none 0 0) := by rw [HK.out, HA.out]; exact HW.out.leaf4
      have hno : ({ data := #[] } : ByteArray).toList.isEmpty = true := by simp
      clear hlt hj
      cases he : s.toList.isEmpty with
      | true =>
        go_wp2_with fail
        go_ret3
        exact ⟨rfl, k, HK.out⟩
      | false =>
        go_wp2_with fail
        go_ret3
        exact ⟨rfl, k, HK.out⟩
end Go.Proofs.YtadmbphefpfbmaaGreatDoor
