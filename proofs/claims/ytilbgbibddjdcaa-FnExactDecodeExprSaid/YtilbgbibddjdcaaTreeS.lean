/- The bits of a tree of pointers: list and checked. -/
import Derived.Test.YtilbgbibddjdcaaTreeR
import Derived.Laws.EntriesVeiled
namespace Go.Proofs.Ytilbgbibddjdcaa
open Go.RowKit

/-- 'make([]T, 0, n)'. -/
theorem wpList_mk0 {P : Program} {ops : Array Oper} {rest : List Oper} {o : Oper} {a : Act} {Q : Exit → Act → World → Prop} {t e : TypeId} {z : Value} (hE : Elt P t e z) (hgd : o.guard = none) (l c : Operand) (ho : o.op = .makeSlice t l c)
    (w : World) (C : Int) (n : Nat) (hl : a.eval l = .int .i64 0) (hc : a.eval c = .int .i64 C) (hC : C = (n : Int)) (hn : n ≤ 1099511627776)
    (h : ∀ w', w'.ownsRow w.heap.size e 1 (.slice (some ⟨w.heap.size, 0, none⟩) 0 n) 0 [] → Below w.heap.size w w' → wpList P ops Q rest (a.put o.dst (.slice (some ⟨w.heap.size, 0, none⟩) 0 n)) w') :
    wpList P ops Q (o :: rest) a w := by
  obtain ⟨ht, hzc, i, hi, hz, hs1, hb⟩ := hE
  have hbn : i.bytes * n ≤ 24 * n := Nat.mul_le_mul_right _ hb
  refine wpList_make_own _ hgd l c t ho w.heap.size e i z 1 ht hi hz hs1 .i64 .i64 C n hl hc hC (by omega) (by unfold maxLen; omega) (Nat.le_refl _) ?_
  intro w' ho' hg
  exact h w' ho' (below_grown hg (Nat.le_refl _) (by simp))

/-- The two variables that the closure captures, just made. -/
theorem two_new {w1 : World} {o1 : Obj} {cs : Array Value} {T : Nat} : ((w1.alloc o1).alloc (.cells cs T)).heap[w1.heap.size + 1]? = some (.cells cs T (0, 0)) := by
  have := heap_alloc_new (w1.alloc o1) (.cells cs T)
  simpa using this
theorem two_old {w1 : World} {o2 : Obj} {cs : Array Value} {T : Nat} : ((w1.alloc (.cells cs T)).alloc o2).heap[w1.heap.size]? = some (.cells cs T (0, 0)) := by
  rw [Below.heap_alloc _ _ _ (by simp)]
  exact heap_alloc_new w1 (.cells cs T)
theorem LS.first {w1 : World} {base n c : Nat} {A : Option Addr} {bs : List Bool} (ho : w1.ownsRow base 4 1 (.slice A n c) n (bools bs)) (hb : base ≤ w1.heap.size) :
    LS ((w1.alloc (.cells #[.slice A n c] 22)).alloc (.cells #[.func (.func 107) #[] #[.pointer (some ⟨w1.heap.size, 0, none⟩), .pointer (some ⟨w1.heap.size + 1, 0, none⟩)]] 127))
      base w1.heap.size (w1.heap.size + 1) A n c bs :=
  ⟨two_old, two_new, (ho.alloc _).alloc _, hb, by simp; exact Nat.le_trans hb (by omega)⟩

set_option maxHeartbeats 1600000 in
theorem list_any (w : World) (lo : Nat) (v : Value) (t : Tr) (h : IsT w lo w.heap.size v t) (hn : t.nodes ≤ 1000000) : Calls Try.prog 68 #[v] w (RetS w 4 (bools t.bits)) := by
  obtain ⟨o, rfl⟩ := h.isPtr
  have HI := Lib.hid h
  clear h
  generalize hg : t.nodes = N at hn
  have HG := Lib.hid hg
  clear hg
  go_enter Try.func68, Try.ntmps68
  go_wp2_with (first
    | (go_at_call 106; go_must (refine (nodesOf_any _ lo _ _ _ HI.out).mono ?_; rintro e w' ⟨rfl, rfl⟩; rw [HG.out]))
    | (at_make; go_must (refine wpList_mk0 eltB rfl _ _ rfl _ _ N (by rfl) (by rfl) (by rfl) (by omega) ?_; rintro w1 hown1 hb1; have fV := free_of_one (two_new (w1 := w1) (o1 := .cells #[.slice (some ⟨w.heap.size, 0, none⟩) 0 N] 22) (cs := #[Value.nilFunc]) (T := 127)); have cV := cell_of_one (two_new (w1 := w1) (o1 := .cells #[.slice (some ⟨w.heap.size, 0, none⟩) 0 N] 22) (cs := #[Value.nilFunc]) (T := 127)))))
  have HS := Lib.hid (LS.first (bs := []) (c := N) (n := 0) (A := some ⟨w.heap.size, 0, none⟩) hown1 hb1.size)
  have HB := Lib.hid (((hb1.alloc hb1.size (.cells #[.slice (some ⟨w.heap.size, 0, none⟩) 0 N] 22)).alloc (by simp; exact Nat.le_trans hb1.size (by omega)) (.cells #[.func (.func 107) #[] #[.pointer (some ⟨w1.heap.size, 0, none⟩), .pointer (some ⟨w1.heap.size + 1, 0, none⟩)]] 127)))
  refine (visit_any t _ _ lo w.heap.size w.heap.size _ _ _ 0 N [] (HI.out.below HB.out (Nat.le_refl _)) (Nat.le_refl _) HS.out (by rw [HG.out]; omega)).mono ?_
  rintro e w4 ⟨rfl, ⟨A4, c4, hs4⟩, hb4⟩
  have cO := cell_of_one hs4.1
  go_wp2_with fail
  go_ret
  refine ⟨A4, _, c4, rfl, ?_, HB.out.trans hb4⟩
  have := hs4.2.2.1
  simpa using this

set_option maxHeartbeats 800000 in
theorem checked_any (w : World) (lo : Nat) (v : Value) (t : Tr) (h : IsT w lo w.heap.size v t) (hn : t.nodes ≤ 1000000) : Calls Try.prog 71 #[v] w (RetSI w 4 (bools (if t.nodes ≤ 2000 then t.bits else [])) (if t.nodes ≤ 2000 then 0 else 5)) := by
  obtain ⟨o, rfl⟩ := h.isPtr
  by_cases h2 : t.nodes ≤ 2000
  · rw [if_pos h2, if_pos h2]
    have HI := Lib.hid h
    have HN := Lib.hid hn
    clear h hn
    generalize hg : t.nodes = N at h2
    have HG := Lib.hid hg
    clear hg
    go_enter Try.func71, Try.ntmps71
    go_wp2_with (first
      | (go_at_call 106; go_must (refine (nodesOf_any _ lo _ _ _ HI.out).mono ?_; rintro e w' ⟨rfl, rfl⟩; rw [HG.out]))
      | (go_at_call 68; go_must (refine (list_any _ lo _ _ HI.out HN.out).mono ?_; rintro e w2 ⟨A2, n2, c2, rfl, ho2, hb2⟩)))
    go_ret2
    exact ⟨A2, n2, c2, rfl, ho2, hb2⟩
  · rw [if_neg h2, if_neg h2]
    have HI := Lib.hid h
    clear h hn
    generalize hg : t.nodes = N at h2
    have HG := Lib.hid hg
    clear hg
    go_enter Try.func71, Try.ntmps71
    go_wp2_with (go_at_call 106; go_must (refine (nodesOf_any _ lo _ _ _ HI.out).mono ?_; rintro e w' ⟨rfl, rfl⟩; rw [HG.out]))
    go_ret2
    exact ⟨none, 0, 0, rfl, own_nil _ _ _, Below.refl _ _⟩
end Go.Proofs.Ytilbgbibddjdcaa
