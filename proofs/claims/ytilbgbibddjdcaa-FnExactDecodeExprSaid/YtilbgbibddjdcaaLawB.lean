/- The contracts of the laws' own helpers on slices of bool: a copy, a comparison, marking and looking at the marks. -/
import Derived.Test.YtilbgbibddjdcaaRows
import Derived.Test.YtilbgbibddjdcaaMem
import Derived.Deep.QuietTactic
import Derived.BigQuiet
namespace Go.Proofs.Ytilbgbibddjdcaa
open Go.RowKit
theorem Try.infoB : (Try.prog.info? 4).map (fun i => (i.zero, i.size, i.bytes)) = some (some (.bool false), 1, 1) := by kernel_rfl
theorem eltB : Elt Try.prog 22 4 (.bool false) := Elt.mk_ Try.underlying22 Try.infoB rfl (by omega)
abbrev bools (bs : List Bool) : List Value := bs.map Value.bool
theorem bools_one (bs : List Bool) : ∀ u ∈ bools bs, u.oneCell' = true := by
  intro u hu; obtain ⟨b, _, rfl⟩ := List.mem_map.1 hu; rfl

def fs (n : Nat) : List Bool := List.replicate n false
theorem fs_succ (n : Nat) : fs (n + 1) = false :: fs n := rfl
theorem fillB_step (xs : List Bool) (n k : Nat) (h : xs.length = n) (hk : k < n) (u : Bool) (hu : xs[k]? = some u) :
    (bools (xs.take k ++ fs (n - k))).set k (.bool u) = bools (xs.take (k + 1) ++ fs (n - (k + 1))) := by
  have hl : min k xs.length = k := by omega
  obtain ⟨m, hm⟩ : ∃ m, n - k = m + 1 := ⟨n - k - 1, by omega⟩
  rw [hm, show n - (k + 1) = m by omega, fs_succ, List.take_add_one, hu]
  simp [hl]
theorem fillB_get (xs : List Bool) (n k : Nat) (h : xs.length = n) (hk : k < n) : (bools (xs.take k ++ fs (n - k)))[k]? = some (.bool false) := by
  have hl : min k xs.length = k := by omega
  obtain ⟨m, hm⟩ : ∃ m, n - k = m + 1 := ⟨n - k - 1, by omega⟩
  rw [hm, fs_succ]
  simp [hl]

set_option maxHeartbeats 400000 in
theorem toBoolS_any (w : World) (A : Option Addr) (n c : Nat) (xs : List Bool) (hr : Rd w A n (bools xs)) (hn : n ≤ 1099511627776) :
    Calls Try.prog 15 #[.slice A n c] w (RetS w 4 (bools xs)) := by
  have hlen : xs.length = n := by simpa using hr.1
  have HL := Lib.hid hlen; clear hlen
  go_enter Try.func15, Try.ntmps15
  go_wp2_with (at_make; refine wpList_mk eltB (by rfl) _ _ (by rfl) _ _ _ n (by rfl) (by rfl) (by rfl) (by rfl) (by omega) ?_; rintro w1 hown1 hgrow1 hlt1)
  go_loopw [4] (fun i wr => ∃ k : Nat, k ≤ n ∧ i = .int .i64 k ∧ wr.ownsRow w.heap.size 4 1 (.slice (some ⟨w.heap.size, 0, none⟩) n n) n (bools (xs.take k ++ fs (n - k))) ∧ Below w.heap.size w wr) (fun i _ => n - (intOf i).toNat)
  case atStart =>
    exact ⟨0, Nat.zero_le _, rfl, by simpa [fs] using hown1, hgrow1⟩
  case round =>
    obtain ⟨k, hk, rfl, hown, hb⟩ := hrel
    clear hown1 hgrow1 hlt1
    by_cases hlt : k < n
    · have hu : xs[k]? = some (xs[k]'(by rw [HL.out]; exact hlt)) := by simp
      generalize xs[k]'(by rw [HL.out]; exact hlt) = u at hu
      obtain ⟨b, off, rfl, hbs, hc⟩ := hr.at_ (k := k) (u := .bool u) (by simp [hu])
      have hc1 := (hb.cell (p := ⟨b, off + k, none⟩) hbs).trans hc
      obtain ⟨g, hg, _, _, hc2, hc3⟩ := own_get hown (fillB_get xs n k HL.out hlt)
      obtain rfl : w.heap.size = g := by simpa using hg
      have HS := Lib.hid (own_put hown k (.bool u)); have HU := Lib.hid hu; have HB := Lib.hid hb
      clear hu hc hown hb hg
      go_wp2_with fail
      go_roundw
      case rel => exact ⟨k + 1, by omega, by go_num, by rw [← fillB_step xs n k HL.out hlt u HU.out]; exact HS.out, HB.out.setCell (Nat.le_refl _) _⟩
      case measure => simp [intOf]; omega
    · go_wp2_with fail
      go_ret
      obtain rfl : k = n := by omega
      refine ⟨some ⟨w.heap.size, 0, none⟩, k, k, rfl, ?_, hb⟩
      simpa [fs, List.take_of_length_le (Nat.le_of_eq HL.out)] using hown

set_option maxHeartbeats 400000 in
theorem eqBoolS_any (w : World) (A : Option Addr) (n c : Nat) (xs : List Bool) (hr : Rd w A n (bools xs)) (hn : n ≤ 1099511627776)
    (A' : Option Addr) (n' c' : Nat) (ys : List Bool) (hr' : Rd w A' n' (bools ys)) (hn' : n' ≤ 1099511627776) :
    Calls Try.prog 17 #[.slice A n c, .slice A' n' c'] w (RetV w (.bool (decide (xs = ys)))) := by
  have hlen : xs.length = n := by simpa using hr.1
  have hlen' : ys.length = n' := by simpa using hr'.1
  by_cases he : n = n'
  · subst he
    have HL := Lib.hid hlen; have HL' := Lib.hid hlen'; clear hlen hlen'
    go_enter Try.func17, Try.ntmps17
    go_wp2_with fail
    go_loopw [5] (fun i wr => ∃ k : Nat, k ≤ n ∧ i = .int .i64 k ∧ xs.take k = ys.take k ∧ Below w.heap.size w wr) (fun i _ => n - (intOf i).toNat)
    case atStart => exact ⟨0, Nat.zero_le _, rfl, by simp, Below.refl _ _⟩
    case round =>
      obtain ⟨k, hk, rfl, hsame, hb⟩ := hrel
      have HE := Lib.hid hsame; clear hsame
      by_cases hlt : k < n
      · have hu : xs[k]? = some (xs[k]'(by rw [HL.out]; exact hlt)) := by simp
        have hv : ys[k]? = some (ys[k]'(by rw [HL'.out]; exact hlt)) := by simp
        generalize xs[k]'(by rw [HL.out]; exact hlt) = u at hu
        generalize ys[k]'(by rw [HL'.out]; exact hlt) = v at hv
        obtain ⟨b, off, rfl, hbs, hc⟩ := hr.at_ (k := k) (u := .bool u) (by simp [hu])
        obtain ⟨b', off', rfl, hbs', hc'⟩ := hr'.at_ (k := k) (u := .bool v) (by simp [hv])
        have hc1 := (hb.cell (p := ⟨b, off + k, none⟩) hbs).trans hc
        have hc2 := (hb.cell (p := ⟨b', off' + k, none⟩) hbs').trans hc'
        have HU := Lib.hid hu; have HV := Lib.hid hv; have HB := Lib.hid hb
        clear hu hv hc hc' hb
        by_cases hne : u = v
        · subst hne
          cases u
          all_goals
            go_wp2_with fail
            go_quiet (fail)
            go_wp2_with fail
            go_roundw
            case rel => exact ⟨k + 1, by omega, by go_num, by rw [List.take_add_one, List.take_add_one, HU.out, HV.out, HE.out], by have := HB.out; exact ⟨this.os, this.tape, this.output, this.size, this.block⟩⟩
            case measure => simp [intOf]; omega
        · have HN : Hid (¬ xs = ys) := Lib.hid (fun e => hne (by have h1 := HU.out; rw [e, HV.out] at h1; simpa using h1.symm))
          cases u <;> cases v <;> first | exact absurd rfl hne | skip
          all_goals
            clear hne
            go_wp2_with fail
            go_quiet (fail)
            go_wp2_with fail
            go_ret
            exact ⟨by simp [HN.out], by have := HB.out; exact ⟨this.os, this.tape, this.output, this.size, this.block⟩⟩
      · go_wp2_with fail
        go_ret
        obtain rfl : k = n := by omega
        refine ⟨?_, hb⟩
        have : xs = ys := by
          have h := HE.out
          rwa [List.take_of_length_le (Nat.le_of_eq HL.out), List.take_of_length_le (Nat.le_of_eq HL'.out)] at h
        simp [this]
  · have h1 : ((n : Int) != (n' : Int)) = true := by simp; omega
    have hne : ¬ xs = ys := fun e => he (by rw [← hlen, ← hlen', e])
    have HN := Lib.hid hne
    clear hlen hlen' he hne
    go_enter Try.func17, Try.ntmps17
    go_wp2_with fail
    go_ret
    exact ⟨by simp [HN.out], Below.refl _ _⟩

theorem eqB_same (w : World) (A : Option Addr) (n c : Nat) (xs : List Bool) (hr : Rd w A n (bools xs)) (hn : n ≤ 1099511627776) (A' : Option Addr) (n' c' : Nat) (hr' : Rd w A' n' (bools xs)) :
    Calls Try.prog 17 #[.slice A n c, .slice A' n' c'] w (RetV w (.bool true)) := by
  have h := eqBoolS_any w A n c xs hr hn A' n' c' xs hr' (by have h1 := hr.1; have h2 := hr'.1; omega)
  simpa using h

/-- Whether k, k + 1, .. is a multiple of three, n times. -/
def third (k : Int) : Bool := (k % 3 == 0)
def upB : Int → Nat → List Bool
  | _, 0 => []
  | k, n + 1 => third k :: upB (k + 1) n
theorem upB_length (k : Int) (n : Nat) : (upB k n).length = n := by
  induction n generalizing k with
  | zero => rfl
  | succ n ih => simp [upB, ih]
theorem upB_get (k : Int) (n i : Nat) (h : i < n) : (upB k n)[i]? = some (third (k + i)) := by
  induction n generalizing k i with
  | zero => omega
  | succ n ih =>
    cases i with
    | zero => simp [upB]
    | succ i => simp only [upB, List.getElem?_cons_succ]; rw [ih _ _ (by omega)]; congr 2; omega
theorem markB_step (k : Int) (xs : List Bool) (n i : Nat) (h : xs.length = n) (hi : i < n) :
    (bools (upB k i ++ xs.drop i)).set i (.bool (third (k + i))) = bools (upB k (i + 1) ++ xs.drop (i + 1)) := by
  apply List.ext_getElem?
  intro j
  rw [List.getElem?_set]
  simp only [bools, List.getElem?_map, List.getElem?_append, upB_length, List.length_map, List.length_append, List.length_drop]
  by_cases h1 : i = j
  · subst h1
    rw [if_pos rfl, if_pos (by omega), if_pos (by omega), upB_get _ _ _ (by omega)]; rfl
  · rw [if_neg h1]
    by_cases h2 : j < i
    · rw [if_pos h2, if_pos (by omega), upB_get _ _ _ h2, upB_get _ _ _ (by omega)]
    · rw [if_neg h2, if_neg (by omega), List.getElem?_drop, List.getElem?_drop]; congr 2; omega
theorem markB_get (k : Int) (xs : List Bool) (n i : Nat) (h : xs.length = n) (hi : i < n) : ∃ u, (bools (upB k i ++ xs.drop i))[i]? = some (.bool u) := by
  refine ⟨xs[i]'(by omega), ?_⟩
  simp only [bools, List.getElem?_map, List.getElem?_append, upB_length]
  rw [if_neg (by omega), List.getElem?_drop]; simp

set_option maxHeartbeats 400000 in
theorem markBoolS_any (w : World) (base : Nat) (A : Option Addr) (n c : Nat) (xs : List Bool) (ho : w.ownsRow base 4 1 (.slice A n c) n (bools xs)) (hn : n ≤ 1099511627776) (k : Int) (hk0 : 0 ≤ k) (hk1 : k ≤ 1099511627776) :
    Calls Try.prog 34 #[.slice A n c, .int .i64 k] w fun e w' => e = .returned (.int .i64 (k + n)) ∧ w'.ownsRow base 4 1 (.slice A n c) n (bools (upB k n)) ∧ w.grownBy w' (Value.ownBlock (.slice A n c)) := by
  have hlen : xs.length = n := by simpa using ho.1
  have HL := Lib.hid hlen; clear hlen
  go_enter Try.func34, Try.ntmps34
  go_wp2_with fail
  go_loopw [1, 5] (fun q i wr => ∃ j : Nat, j ≤ n ∧ i = .int .i64 j ∧ q = .int .i64 (k + j) ∧ wr.ownsRow base 4 1 (.slice A n c) n (bools (upB k j ++ xs.drop j)) ∧ w.grownBy wr (Value.ownBlock (.slice A n c))) (fun _ i _ => n - (intOf i).toNat)
  case atStart => exact ⟨0, Nat.zero_le _, rfl, by simp, by simpa [upB] using ho, World.grownBy.refl _ _⟩
  case round =>
    obtain ⟨j, hj, rfl, rfl, hown, hg⟩ := hrel
    clear ho
    by_cases hlt : j < n
    · obtain ⟨u, hu⟩ := markB_get k xs n j HL.out hlt
      obtain ⟨g, rfl, hbg, hgs, hc2, hc3⟩ := own_get hown hu
      have HS := Lib.hid (own_put hown j (.bool (third (k + j)))); have HG := Lib.hid hg; have HG2 := Lib.hid (hown.stored j (.bool (third (k + j)))).2
      clear hu hown hg
      go_wp2_with fail
      go_roundw
      case rel => exact ⟨j + 1, by omega, by go_num, by go_num, by rw [← markB_step k xs n j HL.out hlt]; exact HS.out, HG.out.trans HG2.out⟩
      case measure => simp [intOf]; omega
    · go_wp2_with fail
      go_ret
      obtain rfl : j = n := by omega
      refine ⟨rfl, ?_, hg⟩
      simpa [List.drop_of_length_le (Nat.le_of_eq HL.out)] using hown

set_option maxHeartbeats 400000 in
theorem heldBoolS_any (w : World) (A : Option Addr) (n c : Nat) (k : Int) (hr : Rd w A n (bools (upB k n))) (hn : n ≤ 1099511627776) (hk0 : 0 ≤ k) (hk1 : k ≤ 1099511627776) :
    Calls Try.prog 35 #[.slice A n c, .int .i64 k] w (RetV w (.int .i64 (k + n))) := by
  go_enter Try.func35, Try.ntmps35
  go_wp2_with fail
  go_loopw [1, 5] (fun q i wr => ∃ j : Nat, j ≤ n ∧ i = .int .i64 j ∧ q = .int .i64 (k + j) ∧ Below w.heap.size w wr) (fun _ i _ => n - (intOf i).toNat)
  case atStart => exact ⟨0, Nat.zero_le _, rfl, by simp, Below.refl _ _⟩
  case round =>
    obtain ⟨j, hj, rfl, rfl, hb⟩ := hrel
    by_cases hlt : j < n
    · obtain ⟨b, off, rfl, hbs, hc⟩ := hr.at_ (k := j) (u := .bool (third (k + j))) (by simp [upB_get _ _ _ hlt])
      have hc1 : wr.cell? ⟨b, off + j, none⟩ = some (.bool ((k + (j : Int)) % 3 == 0)) := (hb.cell (p := ⟨b, off + j, none⟩) hbs).trans hc
      clear hc
      go_wp2_with fail
      go_roundw
      case rel => exact ⟨j + 1, by omega, by go_num, by go_num, hb⟩
      case measure => simp [intOf]; omega
    · go_wp2_with fail
      go_ret
      obtain rfl : j = n := by omega
      exact ⟨rfl, hb⟩
end Go.Proofs.Ytilbgbibddjdcaa
