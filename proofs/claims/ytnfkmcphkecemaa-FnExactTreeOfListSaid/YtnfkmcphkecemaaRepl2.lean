/- ReplacePart: the program's functions. -/
import Derived.Test.YtnfkmcphkecemaaRepl
namespace Go.Proofs.Ytnfkmcphkecemaa
open Go.RowKit

theorem Rd.tail {w : World} {b off n : Nat} {v : Value} {vs : List Value} (h : Rd w (some ⟨b, off, none⟩) (n + 1) (v :: vs)) : Rd w (some ⟨b, off + 1, none⟩) n vs := by
  obtain ⟨h1, h2⟩ := h
  obtain ⟨b', off', e, hb, hc⟩ := h2 (by omega)
  injection e with e
  injection e with e1 e2
  subst e1 e2
  refine ⟨by simpa using h1, fun _ => ⟨b, off + 1, rfl, hb, fun j u hj => ?_⟩⟩
  have := hc (j + 1) u (by simpa using hj)
  rw [show off + 1 + j = off + (j + 1) by omega]
  exact this
theorem Rd.take {w : World} {A : Option Addr} {n k : Nat} {vs : List Value} (h : Rd w A n vs) (hk : k ≤ n) : Rd w A k (vs.take k) := by
  obtain ⟨h1, h2⟩ := h
  refine ⟨by simp; omega, fun hp => ?_⟩
  obtain ⟨b, off, e, hb, hc⟩ := h2 (by omega)
  refine ⟨b, off, e, hb, fun j u hj => hc j u ?_⟩
  rw [List.getElem?_take] at hj
  split at hj
  · exact hj
  · cases hj
theorem Rd.drop {w : World} {b off n k : Nat} {vs : List Value} (h : Rd w (some ⟨b, off, none⟩) n vs) : Rd w (some ⟨b, off + k, none⟩) (n - k) (vs.drop k) := by
  obtain ⟨h1, h2⟩ := h
  refine ⟨by simp [h1], fun hn => ?_⟩
  obtain ⟨b', off', e, hb, hc⟩ := h2 (by omega)
  injection e with e
  injection e with e1 e2
  subst e1 e2
  refine ⟨b, off + k, rfl, hb, fun j u hj => ?_⟩
  have := hc (k + j) u (by simpa using hj)
  rw [show off + k + j = off + (k + j) by omega]
  exact this

set_option maxHeartbeats 400000 in
theorem replClo_any (w : World) (lo B : Nat) (v : Value) (A : Option Addr) (n c : Nat) (y : Tr) (hB : w.heap[B]? = some (.cells #[.slice A n c] 22 (0, 0))) (hr : Rd w A n (bools y.bits)) (hn : n ≤ 1000000) (hlo : lo ≤ w.heap.size) :
    Calls Try.prog 65 #[v, .pointer (some ⟨B, 0, none⟩)] w (RetTr w lo y) := by
  have cB := cell_of_one hB
  go_enter Try.func65, Try.ntmps65
  go_wp2_with (go_at_call 48; go_must (refine (treeOf_any _ _ _ _ y hr hn).mono ?_; rintro e w2 ⟨v2, rfl, h2, hb2⟩; obtain ⟨o2, rfl⟩ := h2.isPtr))
  go_ret
  exact ⟨_, rfl, h2.wide hlo (Nat.le_refl _), hb2⟩

def RetTB (w : World) (lo : Nat) (r : Tr × Bool) (e : Ending) (w' : World) : Prop := ∃ v, e = .returned (.tuple #[v, .bool r.2]) ∧ IsT w' lo w'.heap.size v r.1 ∧ Below w.heap.size w w'

set_option maxHeartbeats 3200000 in
theorem replaced_any (B : Nat) (A : Option Addr) (n c : Nat) (y : Tr) (hn : n ≤ 1000000) (hy : y.nodes ≤ 1000000) : ∀ (p : List Int) (t : Tr) (w : World) (lo : Nat) (v : Value) (A' : Option Addr) (n' c' : Nat), IsT w lo w.heap.size v t → lo ≤ w.heap.size → t.nodes ≤ 1000000 →
    Rd w A' n' (ints p) → n' ≤ c' → n' ≤ 1000000 → w.heap[B]? = some (.cells #[.slice A n c] 22 (0, 0)) → Rd w A n (bools y.bits) →
    Calls Try.prog 64 #[v, .slice A' n' c', .func (.func 65) #[] #[.pointer (some ⟨B, 0, none⟩)]] w (RetTB w lo (repl y t p)) := by
  intro p
  induction p with
  | nil =>
    intro t w lo v A' n' c' ht hlo hnt hr hc hn' hB hry
    obtain ⟨o, rfl⟩ := ht.isPtr
    obtain rfl : n' = 0 := by have := hr.1; simp at this; omega
    have HR : Hid (repl y t [] = (y, true)) := Lib.hid (by cases t <;> rfl)
    go_enter Try.func64, Try.ntmps64
    go_wp2_with (go_at_call 65; go_must (refine (replClo_any _ lo B _ A n c y hB hry hn hlo).mono ?_; rintro e w2 ⟨v2, rfl, h2, hb2⟩; obtain ⟨o2, rfl⟩ := h2.isPtr))
    go_ret2
    rw [HR.out]
    exact ⟨_, rfl, h2, hb2⟩
  | cons x r ih =>
    intro t w lo v A' n' c' ht hlo hnt hr hc hn' hB hry
    obtain ⟨m, rfl⟩ : ∃ m, n' = m + 1 := ⟨n' - 1, by have := hr.1; simp at this; omega⟩
    obtain ⟨b', off', rfl, hbk, hcx⟩ := hr.at_ (k := 0) (u := .int .i64 x) (by simp)
    rw [Nat.add_zero] at hcx
    have hrt := hr.tail
    have HIH := Lib.hid ih
    have g1 : (0 : Int) < (m : Int) + 1 := by omega
    have g2 : ((m : Int) + 1 == 0) = false := by simp; omega
    have g3 : (1 : Int) ≤ (m : Int) + 1 := by omega
    have g4 : (m : Int) + 1 ≤ (c' : Int) := by omega
    have g5 : 0 < m + 1 := by omega
    have g6 : 1 ≤ m + 1 := by omega
    have g7 : m + 1 ≤ c' := hc
    rcases ht.ptr with ⟨rfl, rfl⟩ | ⟨b, vh, vt, h', t', rfl, rfl, hb1, hb2, c0, c1, _, hh, ht2⟩
    · have HR : Hid (repl y .nil (x :: r) = (.nil, false)) := Lib.hid rfl
      clear ih
      go_enter Try.func64, Try.ntmps64
      go_wp2_with fail
      go_ret2
      rw [HR.out]
      exact ⟨_, rfl, rfl, Below.refl _ _⟩
    · obtain ⟨hnh, hnt'⟩ := tr_half hnt
      obtain ⟨o1, rfl⟩ := hh.isPtr
      obtain ⟨o2, rfl⟩ := ht2.isPtr
      by_cases hx : x = 0
      · subst hx
        have HR : Hid (repl y (.node h' t') (0 :: r) = (.node (repl y h' r).1 t', (repl y h' r).2)) := Lib.hid (by simp [repl])
        have HNN := Lib.hid (repl_nodes y r h')
        generalize hq : repl y h' r = q at *
        have HQ := Lib.hid hq
        clear ih hq ht hnt
        by_cases hc1 : c' = 1
        · obtain rfl : m = 0 := by omega
          have hrt0 : Rd w (some ⟨b', off', none⟩) 0 (ints r) := ⟨hrt.1, fun h => absurd h (by omega)⟩
          subst hc1
          go_enter Try.func64, Try.ntmps64
          go_wp2_with fail
          go_region_held3 (fun w' => w'.cell? ⟨b, 0, none⟩ = some (.pointer o1)) (exact c0) (first
            | (go_at_call 64
               go_must (refine (HIH.out h' _ lo _ _ _ _ (by first | exact hh.drew | exact hh) (by exact hlo) hnh (by first | exact hrt0 | exact hrt) (by omega) (by omega) (by exact hB) (by exact hry)).mono ?_
                        rw [HQ.out]
                        rintro e w3 ⟨v3, rfl, h3, hb3⟩
                        obtain ⟨o3, rfl⟩ := h3.isPtr
                        (try replace hb3 := below_undrew hb3)
                        have c0 := (hb3.cell (p := ⟨b, 0, none⟩) hb2).trans c0)))
          have c1' := (hb3.cell (p := ⟨b, 1, none⟩) hb2).trans c1
          have ht3 := (ht2.below hb3 (Nat.le_refl _)).wide (Nat.le_refl _) hb3.size
          clear c0 c1
          go_wp2_with (go_at_call 68; go_must (refine (pair_any _ lo _ _ _ _ h3 ht3 (Nat.le_trans hlo hb3.size) (by have := HNN.out; omega) (by omega)).mono ?_; rintro e w4 ⟨v4, rfl, h4, hb4⟩; obtain ⟨o4, rfl⟩ := h4.isPtr))
          go_ret2
          rw [HR.out]
          exact ⟨_, rfl, h4, hb3.trans (hb4.mono hb3.size)⟩
        · have hrt0 := hrt
          go_enter Try.func64, Try.ntmps64
          go_wp2_with fail
          go_region_held3 (fun w' => w'.cell? ⟨b, 0, none⟩ = some (.pointer o1)) (exact c0) (first
            | (go_at_call 64
               go_must (refine (HIH.out h' _ lo _ _ _ _ (by first | exact hh.drew | exact hh) (by exact hlo) hnh (by first | exact hrt | exact hrt0) (by omega) (by omega) (by exact hB) (by exact hry)).mono ?_
                        rw [HQ.out]
                        rintro e w3 ⟨v3, rfl, h3, hb3⟩
                        obtain ⟨o3, rfl⟩ := h3.isPtr
                        (try replace hb3 := below_undrew hb3)
                        have c0 := (hb3.cell (p := ⟨b, 0, none⟩) hb2).trans c0)))
          have c1' := (hb3.cell (p := ⟨b, 1, none⟩) hb2).trans c1
          have ht3 := (ht2.below hb3 (Nat.le_refl _)).wide (Nat.le_refl _) hb3.size
          clear c0 c1
          go_wp2_with (go_at_call 68; go_must (refine (pair_any _ lo _ _ _ _ h3 ht3 (Nat.le_trans hlo hb3.size) (by have := HNN.out; omega) (by omega)).mono ?_; rintro e w4 ⟨v4, rfl, h4, hb4⟩; obtain ⟨o4, rfl⟩ := h4.isPtr))
          go_ret2
          rw [HR.out]
          exact ⟨_, rfl, h4, hb3.trans (hb4.mono hb3.size)⟩
      · have HR : Hid (repl y (.node h' t') (x :: r) = (.node h' (repl y t' r).1, (repl y t' r).2)) := Lib.hid (by simp [repl, hx])
        have HNN := Lib.hid (repl_nodes y r t')
        generalize hq : repl y t' r = q at *
        have HQ := Lib.hid hq
        have hx0 : (x == 0) = false := by simpa using hx
        clear ih hq ht hnt
        by_cases hc1 : c' = 1
        · obtain rfl : m = 0 := by omega
          have hrt0 : Rd w (some ⟨b', off', none⟩) 0 (ints r) := ⟨hrt.1, fun h => absurd h (by omega)⟩
          subst hc1
          go_enter Try.func64, Try.ntmps64
          go_wp2_with fail
          go_region_held3 (fun w' => w'.cell? ⟨b, 1, none⟩ = some (.pointer o2)) (exact c1) (first
            | (go_at_call 64
               go_must (refine (HIH.out t' _ lo _ _ _ _ (by first | exact ht2.drew | exact ht2) (by exact hlo) hnt' (by first | exact hrt0 | exact hrt) (by omega) (by omega) (by exact hB) (by exact hry)).mono ?_
                        rw [HQ.out]
                        rintro e w3 ⟨v3, rfl, h3, hb3⟩
                        obtain ⟨o3, rfl⟩ := h3.isPtr
                        (try replace hb3 := below_undrew hb3)
                        have c1 := (hb3.cell (p := ⟨b, 1, none⟩) hb2).trans c1)))
          have c0' := (hb3.cell (p := ⟨b, 0, none⟩) hb2).trans c0
          have hh3 := (hh.below hb3 (Nat.le_refl _)).wide (Nat.le_refl _) hb3.size
          clear c0 c1
          go_wp2_with (go_at_call 68; go_must (refine (pair_any _ lo _ _ _ _ hh3 h3 (Nat.le_trans hlo hb3.size) (by omega) (by have := HNN.out; omega)).mono ?_; rintro e w4 ⟨v4, rfl, h4, hb4⟩; obtain ⟨o4, rfl⟩ := h4.isPtr))
          go_ret2
          rw [HR.out]
          exact ⟨_, rfl, h4, hb3.trans (hb4.mono hb3.size)⟩
        · have hrt0 := hrt
          go_enter Try.func64, Try.ntmps64
          go_wp2_with fail
          go_region_held3 (fun w' => w'.cell? ⟨b, 1, none⟩ = some (.pointer o2)) (exact c1) (first
            | (go_at_call 64
               go_must (refine (HIH.out t' _ lo _ _ _ _ (by first | exact ht2.drew | exact ht2) (by exact hlo) hnt' (by first | exact hrt | exact hrt0) (by omega) (by omega) (by exact hB) (by exact hry)).mono ?_
                        rw [HQ.out]
                        rintro e w3 ⟨v3, rfl, h3, hb3⟩
                        obtain ⟨o3, rfl⟩ := h3.isPtr
                        (try replace hb3 := below_undrew hb3)
                        have c1 := (hb3.cell (p := ⟨b, 1, none⟩) hb2).trans c1)))
          have c0' := (hb3.cell (p := ⟨b, 0, none⟩) hb2).trans c0
          have hh3 := (hh.below hb3 (Nat.le_refl _)).wide (Nat.le_refl _) hb3.size
          clear c0 c1
          go_wp2_with (go_at_call 68; go_must (refine (pair_any _ lo _ _ _ _ hh3 h3 (Nat.le_trans hlo hb3.size) (by omega) (by have := HNN.out; omega)).mono ?_; rintro e w4 ⟨v4, rfl, h4, hb4⟩; obtain ⟨o4, rfl⟩ := h4.isPtr))
          go_ret2
          rw [HR.out]
          exact ⟨_, rfl, h4, hb3.trans (hb4.mono hb3.size)⟩
end Go.Proofs.Ytnfkmcphkecemaa
