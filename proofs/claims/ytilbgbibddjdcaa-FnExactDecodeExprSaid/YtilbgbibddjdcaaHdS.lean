/- The reference's head, tail, comparison, tag of a tree of bits. -/
import Derived.Test.YtilbgbibddjdcaaExT
import Derived.Test.YtilbgbibddjdcaaEqT
namespace Go.Proofs.Ytilbgbibddjdcaa
open Go.RowKit
set_option linter.unusedVariables false
set_option linter.unusedSimpArgs false
theorem endAt_part {bs : List Bool} {k : Nat} {s : Tr} {r : List Bool} (h : bs.drop k = s.bits ++ r) (hk : k ≤ bs.length) : endAt bs k = (k + s.nodes, true) ∧ k + s.nodes ≤ bs.length := by
  have hd : bs.drop (k + s.nodes) = r := by rw [← List.drop_drop, h, ← s.bits_len]; simp
  have hl : (bs.drop k).length = s.nodes + r.length := by rw [h]; simp [Tr.bits_len]
  simp only [List.length_drop] at hl
  refine ⟨endAt_some ?_ (by omega), by omega⟩
  rw [h, scan_bits, hd]
  cases r <;> rfl
/-- A part of a slice that is read. -/
theorem rd_part {w : World} {b off n i j : Nat} {vs : List Value} (hr : Rd w (some ⟨b, off, none⟩) n vs) (hij : i ≤ j) (hj : j ≤ n) : Rd w (some ⟨b, off + i, none⟩) (j - i) ((vs.drop i).take (j - i)) := by
  have hl := hr.1
  refine ⟨by simp; omega, fun hn => ?_⟩
  obtain ⟨b', off', e, hb, hc⟩ := hr.2 (by omega)
  obtain ⟨rfl, rfl⟩ : b = b' ∧ off = off' := by simpa using e
  refine ⟨b, off + i, rfl, hb, fun k u hu => ?_⟩
  have h1 : vs[i + k]? = some u := by
    rw [List.getElem?_take] at hu
    split at hu
    · rwa [List.getElem?_drop] at hu
    · cases hu
  have := hc _ _ h1
  rwa [← Nat.add_assoc] at this
theorem node_cut (a b : Tr) : ((bools (Tr.node a b).bits).drop 1).take a.nodes = bools a.bits ∧ ((bools (Tr.node a b).bits).drop (1 + a.nodes)).take b.nodes = bools b.bits := by
  have e : bools (Tr.node a b).bits = .bool true :: (bools a.bits ++ bools b.bits) := by simp [Tr.bits]
  have l1 : (bools a.bits).length = a.nodes := by simp [Tr.bits_len]
  have l2 : (bools b.bits).length = b.nodes := by simp [Tr.bits_len]
  rw [e]
  constructor
  · rw [List.drop_succ_cons, List.drop_zero, List.take_append_of_le_length (by omega), List.take_of_length_le (by omega)]
  · rw [Nat.add_comm, List.drop_succ_cons, ← l1, List.drop_left, List.take_of_length_le (by omega)]
set_option maxHeartbeats 400000 in
theorem l21Own_any (w : World) (A : Option Addr) (n c : Nat) (xs : List Bool) (hr : Rd w A n (bools xs)) (hn : n ≤ 1000000000) :
    Calls Try.prog 134 #[.slice A n c] w (RetS w 4 (bools xs)) := by
  have hown := own_lit w #[] 0 4 rfl (by omega)
  go_enter Try.func134, Try.ntmps134
  go_wp2_with (at_builtin; go_must (refine wpList_appS eltB rfl _ _ rfl (w.alloc (.cells #[] 4)) w.heap.size _ 0 _ (by rfl) hown _ n c (bools xs) (by rfl) (hr.alloc _) (bools_one _) (by simp) (by omega) ?_); rintro A1 c1 w1 hown1 hb1)
  go_ret
  simp only [Nat.zero_add, List.nil_append] at hown1
  exact ⟨A1, n, c1, rfl, hown1, (below_new _ _).trans hb1⟩
set_option maxHeartbeats 1600000 in
theorem l21Head_any (w : World) (A : Option Addr) (n c : Nat) (t : Tr) (hr : Rd w A n (bools t.bits)) (hn : n ≤ 1000000000) (hnc : n ≤ c) : Calls Try.prog 127 #[.slice A n c] w (RetS w 4 (bools t.hd.bits)) := by
  have hl : n = t.nodes := by have := hr.1; simp [Tr.bits_len] at this; exact this.symm
  have hpos := t.nodes_pos
  cases t with
  | nil =>
    obtain ⟨blk, off, rfl, hbs, hc⟩ := hr.at_ (k := 0) (u := .bool false) rfl
    simp only [Nat.add_zero] at hc
    have hn0 : 0 < n := by omega
    clear hl hpos
    go_enter Try.func127, Try.ntmps127
    go_wp2_with fail
    refine (l21Nil_any _).mono ?_
    rintro e w2 ⟨A2, n2, c2, rfl, ho2, hb2⟩
    go_wp2_with fail
    go_ret
    exact ⟨A2, n2, c2, rfl, ho2, hb2⟩
  | node a b =>
    obtain ⟨blk, off, rfl, hbs, hc⟩ := hr.at_ (k := 0) (u := .bool true) rfl
    simp only [Nat.add_zero] at hc
    have hn0 : 0 < n := by omega
    obtain ⟨he, hle⟩ := endAt_part (bs := (Tr.node a b).bits) (k := 1) (s := a) (r := b.bits) rfl (by rw [Tr.bits_len]; exact hpos)
    have HE := Lib.hid he
    rw [Tr.bits_len, ← hl] at hle
    have hcut := rd_part hr (i := 1) (j := 1 + a.nodes) (by omega) hle
    rw [Nat.add_sub_cancel_left, (node_cut a b).1] at hcut
    have hap := a.nodes_pos
    have hbp := b.nodes_pos
    have hlt : 1 + a.nodes < n := by rw [hl]; simp only [Tr.nodes]; omega
    have HA : Hid ((Tr.node a b).hd = a) := Lib.hid rfl
    clear he hl hpos hle
    generalize a.nodes = m at *
    have z1 : (1 : Int) ≤ ((1 + m : Nat) : Int) := by omega
    have z2 : ((1 + m : Nat) : Int) ≤ (c : Int) := by omega
    have z3 : 1 ≤ 1 + m := by omega
    have z4 : ¬ c = 1 := by omega
    go_enter Try.func127, Try.ntmps127
    go_wp2_with (go_at_call 142; go_must (refine (l21End_any _ _ _ _ _ hr (by omega) 1 (by omega)).mono ?_; rw [HE.out]; rintro e w' ⟨rfl, rfl⟩))
    refine (l21Own_any _ _ _ _ a.bits (by first | exact hcut | (simp only [Nat.add_sub_cancel_left]; exact hcut)) (by omega)).mono ?_
    rintro e w2 ⟨A2, n2, c2, rfl, ho2, hb2⟩
    go_wp2_with fail
    go_ret
    exact ⟨A2, n2, c2, rfl, by rw [HA.out]; exact ho2, hb2⟩
set_option maxHeartbeats 1600000 in
theorem l21Tail_any (w : World) (A : Option Addr) (n c : Nat) (t : Tr) (hr : Rd w A n (bools t.bits)) (hn : n ≤ 1000000000) (hnc : n ≤ c) : Calls Try.prog 128 #[.slice A n c] w (RetS w 4 (bools t.tl.bits)) := by
  have hl : n = t.nodes := by have := hr.1; simp [Tr.bits_len] at this; exact this.symm
  have hpos := t.nodes_pos
  cases t with
  | nil =>
    obtain ⟨blk, off, rfl, hbs, hc⟩ := hr.at_ (k := 0) (u := .bool false) rfl
    simp only [Nat.add_zero] at hc
    have hn0 : 0 < n := by omega
    clear hl hpos
    go_enter Try.func128, Try.ntmps128
    go_wp2_with fail
    refine (l21Nil_any _).mono ?_
    rintro e w2 ⟨A2, n2, c2, rfl, ho2, hb2⟩
    go_wp2_with fail
    go_ret
    exact ⟨A2, n2, c2, rfl, ho2, hb2⟩
  | node a b =>
    obtain ⟨blk, off, rfl, hbs, hc⟩ := hr.at_ (k := 0) (u := .bool true) rfl
    simp only [Nat.add_zero] at hc
    have hn0 : 0 < n := by omega
    obtain ⟨he, hle⟩ := endAt_part (bs := (Tr.node a b).bits) (k := 1) (s := a) (r := b.bits) rfl (by rw [Tr.bits_len]; exact hpos)
    have HE := Lib.hid he
    rw [Tr.bits_len, ← hl] at hle
    have hcut := rd_part hr (i := 1 + a.nodes) (j := n) hle (Nat.le_refl _)
    have hnb : n - (1 + a.nodes) = b.nodes := by rw [hl]; simp only [Tr.nodes]; omega
    have hcut2 : Rd w (some ⟨blk, off + (1 + a.nodes), none⟩) (n - (1 + a.nodes)) (bools b.bits) := by
      rw [hnb] at hcut ⊢
      rw [(node_cut a b).2] at hcut
      exact hcut
    have hap := a.nodes_pos
    have hbp := b.nodes_pos
    have hlt : 1 + a.nodes < n := by omega
    have HA : Hid ((Tr.node a b).tl = b) := Lib.hid rfl
    clear he hl hpos hle hcut hnb
    generalize a.nodes = m at *
    have z2 : ((1 + m : Nat) : Int) ≤ (n : Int) := by omega
    have z4 : ¬ c = 1 + m := by omega
    go_enter Try.func128, Try.ntmps128
    go_wp2_with (go_at_call 142; go_must (refine (l21End_any _ _ _ _ _ hr (by omega) 1 (by omega)).mono ?_; rw [HE.out]; rintro e w' ⟨rfl, rfl⟩))
    refine (l21Own_any _ _ _ _ b.bits (by exact hcut2) (by omega)).mono ?_
    rintro e w2 ⟨A2, n2, c2, rfl, ho2, hb2⟩
    go_wp2_with fail
    go_ret
    exact ⟨A2, n2, c2, rfl, by rw [HA.out]; exact ho2, hb2⟩
def CmpP (w : World) (q : Bool) (e : Ending) (w' : World) : Prop := ∃ r : Int, e = .returned (.int .i64 r) ∧ (r == 0) = q ∧ Below w.heap.size w w'
theorem take_ext {α : Type} {xs ys : List α} {k : Nat} {x : α} (h : xs.take k = ys.take k) (hx : xs[k]? = some x) (hy : ys[k]? = some x) : xs.take (k + 1) = ys.take (k + 1) := by
  rw [List.take_add_one, List.take_add_one, h, hx, hy]
theorem ne_at {xs ys : List Bool} {k : Nat} {x y : Bool} (hx : xs[k]? = some x) (hy : ys[k]? = some y) (h : x ≠ y) : (decide (xs = ys)) = false := by
  simp only [decide_eq_false_iff_not]
  intro e
  rw [e, hy] at hx
  simp at hx
  exact h hx.symm
set_option maxHeartbeats 2000000 in
theorem l21Compare_any (w : World) (A : Option Addr) (n c : Nat) (xs : List Bool) (hr : Rd w A n (bools xs)) (hn : n ≤ 1000000000) (A' : Option Addr) (n' c' : Nat) (ys : List Bool) (hr' : Rd w A' n' (bools ys)) (hn' : n' ≤ 1000000000) :
    Calls Try.prog 160 #[.slice A n c, .slice A' n' c'] w (CmpP w (decide (xs = ys))) := by
  have HL : Hid (xs.length = n) := Lib.hid (by simpa using hr.1)
  have HL' : Hid (ys.length = n') := Lib.hid (by simpa using hr'.1)
  by_cases h1 : n < n'
  · have HQ : Hid (decide (xs = ys) = false) := Lib.hid (by simp only [decide_eq_false_iff_not]; rintro rfl; have := HL.out; have := HL'.out; omega)
    go_enter Try.func160, Try.ntmps160
    go_wp2_with fail
    go_ret
    exact ⟨-1, rfl, by rw [HQ.out]; rfl, Below.refl _ _⟩
  · by_cases h2 : n' < n
    · have HQ : Hid (decide (xs = ys) = false) := Lib.hid (by simp only [decide_eq_false_iff_not]; rintro rfl; have := HL.out; have := HL'.out; omega)
      go_enter Try.func160, Try.ntmps160
      go_wp2_with fail
      go_ret
      exact ⟨1, rfl, by rw [HQ.out]; rfl, Below.refl _ _⟩
    · obtain rfl : n = n' := by omega
      clear h1 h2
      go_enter Try.func160, Try.ntmps160
      go_wp2_with fail
      go_loopw [5] (fun q wr => ∃ k : Nat, k ≤ n ∧ q = .int .i64 k ∧ Hid (xs.take k = ys.take k) ∧ Below w.heap.size w wr) (fun q _ => n - (intOf q).toNat)
      case atStart => exact ⟨0, by omega, rfl, Lib.hid (by simp), Below.refl _ _⟩
      case round =>
        obtain ⟨k, hk, rfl, HT, hb⟩ := hrel
        by_cases hlt : k < n
        · have hlt' : (k : Int) < (n : Int) := by omega
          have hk0 : (0 : Int) ≤ (k : Int) := by omega
          obtain ⟨x, hx⟩ := get_some (xs := xs) (k := k) (by rw [HL.out]; exact hlt)
          obtain ⟨y, hy⟩ := get_some (xs := ys) (k := k) (by rw [HL'.out]; exact hlt)
          obtain ⟨b1, off1, rfl, hbs1, q1⟩ := hr.at_ (k := k) (u := .bool x) (by simp [hx])
          obtain ⟨b2, off2, rfl, hbs2, q2⟩ := hr'.at_ (k := k) (u := .bool y) (by simp [hy])
          replace q1 := (hb.cell (p := ⟨b1, off1 + k, none⟩) hbs1).trans q1
          replace q2 := (hb.cell (p := ⟨b2, off2 + k, none⟩) hbs2).trans q2
          have HX := Lib.hid hx
          have HY := Lib.hid hy
          clear hx hy
          cases x <;> cases y
          case false.false =>
            go_wp2_with fail
            go_quiet (fail)
            go_wp2_with fail
            go_roundw
            case rel => exact ⟨k + 1, by omega, by go_num, Lib.hid (take_ext HT.out HX.out HY.out), below_drewN hb⟩
            case measure => simp [intOf]; omega
          case true.true =>
            go_wp2_with fail
            go_quiet (fail)
            go_wp2_with fail
            go_roundw
            case rel => exact ⟨k + 1, by omega, by go_num, Lib.hid (take_ext HT.out HX.out HY.out), below_drewN hb⟩
            case measure => simp [intOf]; omega
          case false.true =>
            have HQ := Lib.hid (ne_at HX.out HY.out (by decide))
            go_wp2_with fail
            go_quiet (fail)
            have q3 : (wr.drewN nq).cell? ⟨b2, off2 + k, none⟩ = some (.bool true) := q2
            go_wp2_with fail
            go_ret
            exact ⟨-1, rfl, by rw [HQ.out]; rfl, below_drewN hb⟩
          case true.false =>
            have HQ := Lib.hid (ne_at HX.out HY.out (by decide))
            go_wp2_with fail
            go_quiet (fail)
            have q3 : (wr.drewN nq).cell? ⟨b2, off2 + k, none⟩ = some (.bool false) := q2
            go_wp2_with fail
            go_ret
            exact ⟨1, rfl, by rw [HQ.out]; rfl, below_drewN hb⟩
        · have HQ : Hid (decide (xs = ys) = true) := Lib.hid (by
            have h := HT.out
            rw [List.take_of_length_le (by rw [HL.out]; omega), List.take_of_length_le (by rw [HL'.out]; omega)] at h
            simp [h])
          go_wp2_with fail
          go_ret
          exact ⟨0, rfl, by rw [HQ.out]; rfl, hb⟩
set_option maxHeartbeats 400000 in
theorem l21Same_any (w : World) (A : Option Addr) (n c : Nat) (xs : List Bool) (hr : Rd w A n (bools xs)) (hn : n ≤ 1000000000) (A' : Option Addr) (n' c' : Nat) (ys : List Bool) (hr' : Rd w A' n' (bools ys)) (hn' : n' ≤ 1000000000) :
    Calls Try.prog 157 #[.slice A n c, .slice A' n' c'] w (RetV w (.bool (decide (xs = ys)))) := by
  go_enter Try.func157, Try.ntmps157
  go_wp2_with fail
  refine (l21Compare_any _ _ _ _ _ hr hn _ _ _ _ hr' hn').mono ?_
  rintro e w2 ⟨r, rfl, hq, hb2⟩
  have HQ := Lib.hid hq
  clear hq
  go_wp2_with fail
  go_ret
  exact ⟨by rw [← HQ.out]; rfl, hb2⟩
end Go.Proofs.Ytilbgbibddjdcaa
