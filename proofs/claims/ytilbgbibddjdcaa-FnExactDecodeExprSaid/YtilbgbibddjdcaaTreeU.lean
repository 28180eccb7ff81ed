/- A tree of pointers out of its bits: the closure build, treeOf. -/
import Derived.Test.YtilbgbibddjdcaaTreeS
namespace Go.Proofs.Ytilbgbibddjdcaa
open Go.RowKit

/-- The closure's state: the bits in the first variable, the place in the second, the closure itself in the third. -/
def BS (w0 w : World) (A : Option Addr) (n c k : Nat) : Prop :=
  w.heap[w0.heap.size]? = some (.cells #[.slice A n c] 22 (0, 0)) ∧ w.heap[w0.heap.size + 1]? = some (.cells #[.int .i64 k] 3 (0, 0)) ∧
  w.heap[w0.heap.size + 2]? = some (.cells #[.func (.func 104) #[] #[.pointer (some ⟨w0.heap.size, 0, none⟩), .pointer (some ⟨w0.heap.size + 1, 0, none⟩), .pointer (some ⟨w0.heap.size + 2, 0, none⟩)]] 124 (0, 0)) ∧
  Below w0.heap.size w0 w
theorem BS.put {w0 w : World} {A : Option Addr} {n c k : Nat} (h : BS w0 w A n c k) (k' : Nat) : BS w0 (w.setCell ⟨w0.heap.size + 1, 0, none⟩ (.int .i64 k')) A n c k' := by
  obtain ⟨h1, h2, h3, h4⟩ := h
  refine ⟨?_, one_setCell h2, ?_, h4.setCell (by simp) _⟩
  · rw [Below.heap_setCell _ _ _ _ (by simp)]; exact h1
  · rw [Below.heap_setCell _ _ _ _ (by simp)]; exact h3
theorem BS.below {w0 w w' : World} {A : Option Addr} {n c k : Nat} (h : BS w0 w A n c k) (hb : Below w.heap.size w w') : BS w0 w' A n c k := by
  obtain ⟨h1, h2, h3, h4⟩ := h
  exact ⟨(hb.block _ (lt_of_block h1)).trans h1, (hb.block _ (lt_of_block h2)).trans h2, (hb.block _ (lt_of_block h3)).trans h3, h4.trans (hb.mono h4.size)⟩
/-- What a call of the closure leaves. -/
def BRet (w0 w : World) (A : Option Addr) (n c k : Nat) (t : Tr) (e : Ending) (w' : World) : Prop :=
  ∃ v, e = .returned v ∧ IsT w' (w0.heap.size + 3) w'.heap.size v t ∧ BS w0 w' A n c (k + t.nodes) ∧ (∀ b, w0.heap.size + 3 ≤ b → b < w.heap.size → w'.heap[b]? = w.heap[b]?) ∧ w.heap.size ≤ w'.heap.size

set_option maxHeartbeats 1600000 in
theorem build_any (w0 : World) (A : Option Addr) (n c : Nat) (bs : List Bool) (hr : Rd w0 A n (bools bs)) (hn : n ≤ 1000000) : ∀ (t : Tr) (w : World) (k : Nat) (rest : List Bool), bs.drop k = t.bits ++ rest → BS w0 w A n c k →
    Calls Try.prog 104 #[.pointer (some ⟨w0.heap.size, 0, none⟩), .pointer (some ⟨w0.heap.size + 1, 0, none⟩), .pointer (some ⟨w0.heap.size + 2, 0, none⟩)] w (BRet w0 w A n c k t) := by
  have HLN : Hid (bs.length = n) := Lib.hid (by simpa using hr.1)
  intro t
  induction t with
  | nil =>
    intro w k rest hd hs
    have hget : bs[k]? = some false := by
      have h0 : (bs.drop k)[0]? = some false := by rw [hd]; rfl
      simpa using h0
    have hk : k < n := by rw [← HLN.out]; exact (List.getElem?_eq_some_iff.1 hget).1
    obtain ⟨b, off, rfl, hbs, hc⟩ := hr.at_ (k := k) (u := .bool false) (by simp [hget])
    have hc1 := (hs.2.2.2.cell (p := ⟨b, off + k, none⟩) hbs).trans hc
    have cT := cell_of_one hs.1
    have cK := cell_of_one hs.2.1
    have fK := free_of_one hs.2.1
    have HP := Lib.hid (hs.put (k + 1))
    have EK : Hid (((k : Int) + 1) = ((k + 1 : Nat) : Int)) := Lib.hid (by omega)
    clear hd hget hc
    go_enter Try.func104, Try.ntmps104
    go_wp2_with fail
    go_ret
    refine ⟨_, rfl, rfl, by rw [EK.out]; exact HP.out, ?_, by simp⟩
    intro b' h1 h2
    rw [Below.heap_setCell _ _ _ _ (by simp; omega)]
  | node l r ihl ihr =>
    intro w k rest hd hs
    have hd' : bs.drop k = true :: (l.bits ++ (r.bits ++ rest)) := by rw [hd]; simp [Tr.bits]
    have hget : bs[k]? = some true := by
      have h0 : (bs.drop k)[0]? = some true := by rw [hd']; rfl
      simpa using h0
    have hk : k < n := by rw [← HLN.out]; exact (List.getElem?_eq_some_iff.1 hget).1
    have HD1 : Hid (bs.drop (k + 1) = l.bits ++ (r.bits ++ rest)) := Lib.hid (by
      have h1 := drop_get hget
      rw [hd'] at h1
      simpa using h1.symm)
    have HD2 : Hid (bs.drop (k + 1 + l.nodes) = r.bits ++ rest) := Lib.hid (by
      rw [← List.drop_drop, HD1.out, ← l.bits_len]
      simp)
    obtain ⟨b, off, rfl, hbs, hc⟩ := hr.at_ (k := k) (u := .bool true) (by simp [hget])
    have hc1 := (hs.2.2.2.cell (p := ⟨b, off + k, none⟩) hbs).trans hc
    have cT := cell_of_one hs.1
    have cK := cell_of_one hs.2.1
    have fK := free_of_one hs.2.1
    have HP := Lib.hid (hs.put (k + 1))
    have EK : Hid (((k : Int) + 1) = ((k + 1 : Nat) : Int)) := Lib.hid (by omega)
    have cB := cell_of_one hs.2.2.1
    have HL := Lib.hid ihl; have HR := Lib.hid ihr
    have HN : Hid ((Tr.node l r).nodes = 1 + l.nodes + r.nodes) := Lib.hid rfl
    have hsum : Hid (l.nodes + r.nodes ≤ 1000000) := Lib.hid (by
      have h1 : (bs.drop k).length ≤ n := by simp [HLN.out]
      rw [hd'] at h1
      simp only [List.length_cons, List.length_append, Tr.bits_len] at h1
      omega)
    have HW : Hid (w.heap.size = (w.setCell ⟨w0.heap.size + 1, 0, none⟩ (.int .i64 ((k : Int) + 1))).heap.size ∧ ∀ b', w0.heap.size + 3 ≤ b' → (w.setCell ⟨w0.heap.size + 1, 0, none⟩ (.int .i64 ((k : Int) + 1))).heap[b']? = w.heap[b']?) := Lib.hid ⟨by simp, fun b' h1 => by rw [Below.heap_setCell _ _ _ _ (by simp; omega)]⟩
    have hbig : w0.heap.size + 3 ≤ w.heap.size := lt_of_block hs.2.2.1
    clear hd hd' hget hc ihl ihr
    go_enter Try.func104, Try.ntmps104
    go_wp2_with fail
    have HP' : BS w0 (w.setCell ⟨w0.heap.size + 1, 0, none⟩ (.int .i64 ((k : Int) + 1))) (some ⟨b, off, none⟩) n c (k + 1) := by rw [EK.out]; exact HP.out
    clear cT cK fK hc1 cB HP
    obtain ⟨hw1, hw2⟩ := HW.out
    clear HW
    generalize w.setCell ⟨w0.heap.size + 1, 0, none⟩ (.int .i64 ((k : Int) + 1)) = w1 at *
    refine (HL.out _ (k + 1) _ HD1.out HP').mono ?_
    rintro e w2 ⟨v2, rfl, h2, hs2, hk2, hz2⟩
    obtain ⟨o2, rfl⟩ := h2.isPtr
    have cB := cell_of_one hs2.2.2.1
    have HW1 := Lib.hid hw1; have HW2 := Lib.hid hw2; have HK2 := Lib.hid hk2
    clear hw1 hw2 hk2 HP'
    go_wp2_with fail
    refine (HR.out _ (k + 1 + l.nodes) _ HD2.out hs2).mono ?_
    rintro e w3 ⟨v3, rfl, h3, hs3, hk3, hz3⟩
    obtain ⟨o3, rfl⟩ := h3.isPtr
    have h2' := (h2.keep hk3).wide (Nat.le_refl _) hz3
    have HK3 := Lib.hid hk3
    have hl3 : w0.heap.size + 3 ≤ w3.heap.size := lt_of_block hs3.2.2.1
    clear hk3 cB h2
    go_wp2_with fail
    refine (pair_any _ (w0.heap.size + 3) _ _ _ _ h2' h3 hl3 (by have := hsum.out; omega) (by have := hsum.out; omega)).mono ?_
    rintro e w4 ⟨v4, rfl, h4, hb4⟩
    obtain ⟨o4, rfl⟩ := h4.isPtr
    have hs4 := hs3.below hb4
    go_wp2_with fail
    go_ret
    refine ⟨_, rfl, h4, ?_, ?_, ?_⟩
    · rw [HN.out, show k + (1 + l.nodes + r.nodes) = k + 1 + l.nodes + r.nodes by omega]; exact hs4
    · intro b' q1 q2
      have q3 : b' < w1.heap.size := by rw [← HW1.out]; exact q2
      have q4 := Nat.lt_of_lt_of_le q3 hz2
      rw [hb4.block b' (Nat.lt_of_lt_of_le q4 hz3), HK3.out b' q1 q4, HK2.out b' q1 q3, HW2.out b' q1]
    · rw [HW1.out]; exact Nat.le_trans (Nat.le_trans hz2 hz3) hb4.size

theorem BS.first (w : World) (A : Option Addr) (n c : Nat) : BS w (((w.alloc (.cells #[.slice A n c] 22)).alloc (.cells #[.int .i64 0] 3)).alloc
    (.cells #[.func (.func 104) #[] #[.pointer (some ⟨w.heap.size, 0, none⟩), .pointer (some ⟨w.heap.size + 1, 0, none⟩), .pointer (some ⟨w.heap.size + 1 + 1, 0, none⟩)]] 124)) A n c 0 := by
  refine ⟨?_, ?_, ?_, ?_⟩
  · rw [Below.heap_alloc _ _ _ (by simp; omega), Below.heap_alloc _ _ _ (by simp)]
    exact heap_alloc_new w _
  · rw [Below.heap_alloc _ _ _ (by simp)]
    exact two_new
  · have := two_new (w1 := w.alloc (.cells #[.slice A n c] 22)) (o1 := .cells #[.int .i64 0] 3) (cs := #[.func (.func 104) #[] #[.pointer (some ⟨w.heap.size, 0, none⟩), .pointer (some ⟨w.heap.size + 1, 0, none⟩), .pointer (some ⟨w.heap.size + 1 + 1, 0, none⟩)]]) (T := 124)
    simpa using this
  · exact (((Below.refl _ _).alloc (Nat.le_refl _) _).alloc (by simp) _).alloc (by simp; omega) _

set_option maxHeartbeats 1600000 in
theorem treeOf_any (w : World) (A : Option Addr) (n c : Nat) (t : Tr) (hr : Rd w A n (bools t.bits)) (hn : n ≤ 1000000) : Calls Try.prog 67 #[.slice A n c] w (RetTr w w.heap.size t) := by
  go_enter Try.func67, Try.ntmps67
  go_wp2_with fail
  refine (build_any w A n c t.bits hr hn t _ 0 [] (by simp) (BS.first w A n c)).mono ?_
  rintro e w2 ⟨v2, rfl, h2, hs2, _, hz2⟩
  obtain ⟨o2, rfl⟩ := h2.isPtr
  go_wp2_with fail
  go_ret
  exact ⟨_, rfl, h2.wide (by omega) (Nat.le_refl _), hs2.2.2.2⟩
end Go.Proofs.Ytilbgbibddjdcaa
