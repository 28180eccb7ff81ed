/- Contracts of the reference's functions on naturals (lists of limbs). -/
import Derived.Test.YtdpkcnjoklnoeaaLawI
import Derived.Test.YtdpkcnjoklnoeaaMath
namespace Go.Proofs.Ytdpkcnjoklnoeaa
open Go.RowKit Limb
theorem Try.eltI : Elt Try.prog 22 2 (.int .i64 0) := Elt.mk_ Try.underlying22 Try.infoI rfl (by decide)
theorem drop_get {α : Type} {xs : List α} {k : Nat} {x : α} (h : xs[k]? = some x) : xs.drop k = x :: xs.drop (k + 1) := by
  obtain ⟨hk, rfl⟩ := List.getElem?_eq_some_iff.1 h
  exact List.drop_eq_getElem_cons hk
theorem get_some {α : Type} {xs : List α} {k : Nat} (h : k < xs.length) : ∃ u, xs[k]? = some u := ⟨xs[k], by simp⟩
theorem ok_get {xs : List Int} (h : Ok xs) {k : Nat} {x : Int} (hx : xs[k]? = some x) : 0 ≤ x ∧ x < 1000000 := by
  obtain ⟨hk, rfl⟩ := List.getElem?_eq_some_iff.1 hx
  exact h _ (List.getElem_mem hk)
theorem ints_get {xs : List Int} {k : Nat} {x : Int} (h : xs[k]? = some x) : (ints xs)[k]? = some (.int .i64 x) := by simp [h]
theorem ints_len (xs : List Int) : (ints xs).length = xs.length := by simp
theorem ints_snoc (xs : List Int) (x : Int) : ints xs ++ [.int .i64 x] = ints (xs ++ [x]) := by simp
theorem ints_one {vs : List Int} : ∀ u ∈ ints vs, u.oneCell' = true := by
  intro u hu
  simp only [ints, List.mem_map] at hu
  obtain ⟨x, _, rfl⟩ := hu
  rfl
theorem trim_take (xs : List Int) : trim xs = xs.take (trim xs).length := by
  induction xs with
  | nil => rfl
  | cons x xs ih =>
    simp only [trim]
    split
    · split <;> simp
    · simp only [List.length_cons, List.take_succ_cons]; rw [← ih]
theorem trim_le (xs : List Int) : (trim xs).length ≤ xs.length := by
  have := congrArg List.length (trim_take xs)
  simp at this; omega
theorem trim_step0 {xs : List Int} {k : Nat} (h : xs[k]? = some 0) : trim (xs.take (k + 1)) = trim (xs.take k) := by
  rw [List.take_add_one, h]; exact trim_snoc_zero _
theorem trim_stop {xs : List Int} {k : Nat} {u : Int} (h : xs[k]? = some u) (hu : u ≠ 0) : trim (xs.take (k + 1)) = xs.take (k + 1) := by
  rw [List.take_add_one, h]; exact trim_snoc _ _ hu

set_option maxHeartbeats 400000 in
theorem l02Trim_any (w : World) (base : Nat) (A : Option Addr) (n c : Nat) (xs : List Int) (ho : w.ownsRow base 2 1 (.slice A n c) n (ints xs)) (hn : n ≤ 1099511627776) :
    Calls Try.prog 83 #[.slice A n c] w fun e w' => e = .returned (.slice A (trim xs).length c) ∧ w = w' := by
  have hlen : xs.length = n := by simpa using ho.1
  obtain ⟨_, _, hf, hnc, _⟩ := own_form ho
  injection hf with hf1 hf2 hf3
  subst hf1 hf3
  have HL := Lib.hid hlen; clear hlen hf2
  go_enter Try.func83, Try.ntmps83
  go_wp2_with fail
  go_loop [3] (fun i => ∃ k : Nat, k ≤ n ∧ i = .int .i64 k ∧ Hid (trim xs = trim (xs.take k))) (fun i => (intOf i).toNat)
  case atStart => exact ⟨n, Nat.le_refl _, rfl, by rw [List.take_of_length_le (Nat.le_of_eq HL.out)]; exact Lib.hid rfl⟩
  case round =>
    obtain ⟨k, hk, rfl, ht⟩ := hrel
    rcases Nat.eq_zero_or_pos k with h0 | h0
    · subst h0
      go_wp2_with fail
      go_ret
      refine ⟨?_, rfl⟩
      rw [ht.out]; rfl
    · obtain ⟨j, rfl⟩ : ∃ j, k = j + 1 := ⟨k - 1, by omega⟩
      obtain ⟨u, hu⟩ := get_some (xs := xs) (k := j) (by rw [HL.out]; omega)
      obtain ⟨g, rfl, _, _, hc, _⟩ := own_get ho (ints_get hu)
      have HU := Lib.hid hu
      clear hu
      by_cases hz : u = 0
      · subst hz
        go_wp2_with fail
        go_round
        case rel => exact ⟨j, by omega, by go_num, by rw [ht.out, trim_step0 HU.out]; exact Lib.hid rfl⟩
        case measure => simp [intOf]
      · have hz' : (u == 0) = false := by simpa using hz
        have HZ := Lib.hid hz; clear hz
        go_wp2_with fail
        go_ret
        refine ⟨?_, rfl⟩
        rw [ht.out, trim_stop HU.out HZ.out, List.length_take, HL.out, Nat.min_eq_left hk]; rfl
/-- What is left of an owned row behind 'trim'. -/
theorem own_trim {w : World} {base n c : Nat} {A : Option Addr} {xs : List Int} (ho : w.ownsRow base 2 1 (.slice A n c) n (ints xs)) : w.ownsRow base 2 1 (.slice A (trim xs).length c) (trim xs).length (ints (trim xs)) := by
  have hlen : xs.length = n := by simpa using ho.1
  have h := own_take ho (k := (trim xs).length) (by have := trim_le xs; omega)
  rwa [ints, ← List.map_take, ← trim_take] at h

theorem addL_step_both {xs ys : List Int} {k : Nat} {x y c : Int} (hx : xs[k]? = some x) (hy : ys[k]? = some y) :
    addL (xs.drop k) (ys.drop k) c = ((c + x + y) % 1000000) :: addL (xs.drop (k + 1)) (ys.drop (k + 1)) ((c + x + y) / 1000000) := by
  rw [drop_get hx, drop_get hy, addL]
theorem addL_step_left {xs ys : List Int} {k : Nat} {x c : Int} (hx : xs[k]? = some x) (hy : ys.length ≤ k) :
    addL (xs.drop k) (ys.drop k) c = ((c + x) % 1000000) :: addL (xs.drop (k + 1)) (ys.drop (k + 1)) ((c + x) / 1000000) := by
  rw [drop_get hx, List.drop_of_length_le hy, addL, List.drop_of_length_le (by omega : ys.length ≤ k + 1)]
theorem addL_step_right {xs ys : List Int} {k : Nat} {y c : Int} (hx : xs.length ≤ k) (hy : ys[k]? = some y) :
    addL (xs.drop k) (ys.drop k) c = ((c + y) % 1000000) :: addL (xs.drop (k + 1)) (ys.drop (k + 1)) ((c + y) / 1000000) := by
  rw [drop_get hy, List.drop_of_length_le hx, addL, List.drop_of_length_le (by omega : xs.length ≤ k + 1)]
theorem addL_step_none {xs ys : List Int} {k : Nat} {c : Int} (hx : xs.length ≤ k) (hy : ys.length ≤ k) (hc : 0 < c) :
    addL (xs.drop k) (ys.drop k) c = (c % 1000000) :: addL (xs.drop (k + 1)) (ys.drop (k + 1)) (c / 1000000) := by
  rw [List.drop_of_length_le hx, List.drop_of_length_le hy, List.drop_of_length_le (by omega : xs.length ≤ k + 1), List.drop_of_length_le (by omega : ys.length ≤ k + 1), addL, addL, limbs_pos (by omega)]
  rw [show ((c.toNat % 1000000 : Nat) : Int) = c % 1000000 by omega, show c.toNat / 1000000 = (c / 1000000).toNat by omega]

/-- The relation of l02Add's loop: what is still to come behind what is there. -/
def AddRel (w : World) (e : TypeId) (xs ys : List Int) (M : Nat) (v q i : Value) (wr : World) : Prop :=
  ∃ (k : Nat) (c : Int) (out : List Int), i = .int .i64 k ∧ q = .int .i64 c ∧ out.length = k ∧ addL xs ys 0 = out ++ addL (xs.drop k) (ys.drop k) c ∧ 0 ≤ c ∧ c ≤ 1 ∧ k ≤ M + 1 ∧ (k = M + 1 → c = 0) ∧
    wr.ownsRow w.heap.size e 1 v k (ints out) ∧ Below w.heap.size w wr

set_option maxHeartbeats 1000000 in
theorem l02Add_any (w : World) (A : Option Addr) (n c : Nat) (xs : List Int) (hr : Rd w A n (ints xs)) (hn : n ≤ 1000000000)
    (A' : Option Addr) (n' c' : Nat) (ys : List Int) (hr' : Rd w A' n' (ints ys)) (hn' : n' ≤ 1000000000) (okx : Ok xs) (oky : Ok ys) :
    Calls Try.prog 50 #[.slice A n c, .slice A' n' c'] w (RetS w 2 (ints (addL xs ys 0))) := by
  have hlen : xs.length = n := by simpa using hr.1
  have hlen' : ys.length = n' := by simpa using hr'.1
  have HL := Lib.hid hlen; have HL' := Lib.hid hlen'; clear hlen hlen'
  have hM1 : n ≤ max n n' := Nat.le_max_left _ _
  have hM2 : n' ≤ max n n' := Nat.le_max_right _ _
  have hM3 : max n n' ≤ 1000000000 := Nat.max_le.2 ⟨hn, hn'⟩
  have hM4 : n = max n n' ∨ n' = max n n' := by omega
  have HM4 := Lib.hid hM4
  generalize max n n' = M at hM1 hM2 hM3 HM4
  clear hM4
  go_enter Try.func50, Try.ntmps50
  go_wp2_with fail
  go_loopw [5, 6, 7] (AddRel w 2 xs ys M) (fun _ _ i _ => M + 1 - (intOf i).toNat)
  case atStart =>
    refine ⟨0, 0, [], rfl, rfl, rfl, by simp, by omega, by omega, by omega, by simp, ?_, ?_⟩
    · exact World.ownsRow_lit (base := w.heap.size) w #[] 0 (Nat.le_refl _) (by unfold maxLen; omega) rfl
    · exact (Below.refl _ _).alloc (Nat.le_refl _) _
  case round =>
    obtain ⟨k, cc, out, rfl, rfl, hok, hadd, hc0, hc1, hkM, hkM', hown, hb⟩ := hrel
    obtain ⟨Ao, co, rfl, hco, _⟩ := own_form hown
    have hbs := hb.size
    have HA := Lib.hid hadd; have HK := Lib.hid hok; have HKM := Lib.hid hkM'
    clear hadd hok hkM'
    by_cases h1 : k < n
    · obtain ⟨x, hx⟩ := get_some (xs := xs) (k := k) (by rw [HL.out]; omega)
      obtain ⟨hx0, hx1⟩ := ok_get okx hx
      obtain ⟨b, off, rfl, hbk, hcx⟩ := hr.at_ (ints_get hx)
      have hcx1 := (hb.cell (p := ⟨b, off + k, none⟩) hbk).trans hcx
      have HX := Lib.hid hx
      clear hx hcx
      by_cases h2 : k < n'
      · obtain ⟨y, hy⟩ := get_some (xs := ys) (k := k) (by rw [HL'.out]; omega)
        obtain ⟨hy0, hy1⟩ := ok_get oky hy
        obtain ⟨b', off', rfl, hbk', hcy⟩ := hr'.at_ (ints_get hy)
        have hcy1 := (hb.cell (p := ⟨b', off' + k, none⟩) hbk').trans hcy
        have HY := Lib.hid hy
        clear hy hcy
        go_wp2_with (at_builtin; go_must (refine wpList_app1 Try.eltI rfl _ _ rfl wr w.heap.size _ k _ (by rfl) hown _ (by rfl) (by rfl) (by omega) (by omega) ?_); rintro A1 c1 w1 hown1 hb1)
        go_roundw
        case rel =>
          refine ⟨k + 1, _, out ++ [_], by go_num, rfl, by simp [HK.out], ?_, by omega, by omega, by omega, by omega, by rw [ints_snoc] at hown1; exact hown1, hb.trans hb1⟩
          rw [HA.out, addL_step_both HX.out HY.out]; simp
        case measure => simp [intOf]; omega
      · go_wp2_with (at_builtin; go_must (refine wpList_app1 Try.eltI rfl _ _ rfl wr w.heap.size _ k _ (by rfl) hown _ (by rfl) (by rfl) (by omega) (by omega) ?_); rintro A1 c1 w1 hown1 hb1)
        go_roundw
        case rel =>
          refine ⟨k + 1, _, out ++ [_], by go_num, rfl, by simp [HK.out], ?_, by omega, by omega, by omega, by omega, by rw [ints_snoc] at hown1; exact hown1, hb.trans hb1⟩
          rw [HA.out, addL_step_left HX.out (by rw [HL'.out]; omega)]; simp
        case measure => simp [intOf]; omega
    · by_cases h2 : k < n'
      · obtain ⟨y, hy⟩ := get_some (xs := ys) (k := k) (by rw [HL'.out]; omega)
        obtain ⟨hy0, hy1⟩ := ok_get oky hy
        obtain ⟨b', off', rfl, hbk', hcy⟩ := hr'.at_ (ints_get hy)
        have hcy1 := (hb.cell (p := ⟨b', off' + k, none⟩) hbk').trans hcy
        have HY := Lib.hid hy
        clear hy hcy
        go_wp2_with (at_builtin; go_must (refine wpList_app1 Try.eltI rfl _ _ rfl wr w.heap.size _ k _ (by rfl) hown _ (by rfl) (by rfl) (by omega) (by omega) ?_); rintro A1 c1 w1 hown1 hb1)
        go_roundw
        case rel =>
          refine ⟨k + 1, _, out ++ [_], by go_num, rfl, by simp [HK.out], ?_, by omega, by omega, by omega, by omega, by rw [ints_snoc] at hown1; exact hown1, hb.trans hb1⟩
          rw [HA.out, addL_step_right (by rw [HL.out]; omega) HY.out]; simp
        case measure => simp [intOf]; omega
      · by_cases h3 : 0 < cc
        · have hkk : k ≤ M := by rcases Nat.lt_or_ge k (M + 1) with h | h
                                 · omega
                                 · have := HKM.out (by omega); omega
          go_wp2_with (at_builtin; go_must (refine wpList_app1 Try.eltI rfl _ _ rfl wr w.heap.size _ k _ (by rfl) hown _ (by rfl) (by rfl) (by omega) (by omega) ?_); rintro A1 c1 w1 hown1 hb1)
          go_roundw
          case rel =>
            refine ⟨k + 1, _, out ++ [_], by go_num, rfl, by simp [HK.out], ?_, by omega, by omega, by omega, by omega, by rw [ints_snoc] at hown1; exact hown1, hb.trans hb1⟩
            rw [HA.out, addL_step_none (by rw [HL.out]; omega) (by rw [HL'.out]; omega) h3]; simp
          case measure => simp [intOf]; omega
        · go_wp2_with fail
          go_ret
          have e : addL xs ys 0 = out := by
            rw [HA.out, List.drop_of_length_le (by rw [HL.out]; omega), List.drop_of_length_le (by rw [HL'.out]; omega), addL, show cc.toNat = 0 by omega, limbs_zero, List.append_nil]
          rw [e]
          exact ⟨Ao, k, co, rfl, hown, hb⟩
end Go.Proofs.Ytdpkcnjoklnoeaa
