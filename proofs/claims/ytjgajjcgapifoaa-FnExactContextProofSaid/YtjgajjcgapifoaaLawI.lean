/- The contracts of the laws' own helpers on slices of int64: a copy, a comparison, marking and looking at the marks. -/
import Derived.Test.YtjgajjcgapifoaaRows
import Derived.Test.YtjgajjcgapifoaaMem
import Derived.Deep.QuietTactic
import Derived.BigQuiet
import Derived.OpenShut
namespace Go.Proofs.Ytjgajjcgapifoaa
open Go.RowKit
theorem Try.infoI : (Try.prog.info? 2).map (fun i => (i.zero, i.size, i.bytes)) = some (some (.int .i64 0), 1, 8) := by kernel_rfl

def zs (n : Nat) : List Int := List.replicate n 0
theorem ints_zs (n : Nat) : (madeCells (Value.int .i64 0).cells (n * 1)).toList = ints (zs n) := by
  simp [zs, ints, Value.cells, toList_madeCells_one]
theorem zs_succ (n : Nat) : zs (n + 1) = 0 :: zs n := rfl
theorem fill_step (xs : List Int) (n k : Nat) (h : xs.length = n) (hk : k < n) (u : Int) (hu : xs[k]? = some u) :
    (ints (xs.take k ++ zs (n - k))).set k (.int .i64 u) = ints (xs.take (k + 1) ++ zs (n - (k + 1))) := by
  have hl : min k xs.length = k := by omega
  obtain ⟨m, hm⟩ : ∃ m, n - k = m + 1 := ⟨n - k - 1, by omega⟩
  rw [hm, show n - (k + 1) = m by omega, zs_succ, List.take_add_one, hu]
  simp [hl]
theorem fill_get (xs : List Int) (n k : Nat) (h : xs.length = n) (hk : k < n) : (ints (xs.take k ++ zs (n - k)))[k]? = some (.int .i64 0) := by
  have hl : min k xs.length = k := by omega
  obtain ⟨m, hm⟩ : ∃ m, n - k = m + 1 := ⟨n - k - 1, by omega⟩
  rw [hm, zs_succ]
  simp [hl]

set_option maxHeartbeats 400000 in
theorem toInt64S_any (w : World) (A : Option Addr) (n c : Nat) (xs : List Int) (hr : Rd w A n (ints xs)) (hn : n ≤ 1099511627776) :
    Calls Try.prog 15 #[.slice A n c] w (RetS w 2 (ints xs)) := by
  obtain ⟨i0, hi, hz0, hz1, hz2⟩ := info_parts Try.infoI
  have hlen : xs.length = n := by simpa using hr.1
  have HI := Lib.hid hi; have H0 := Lib.hid hz0; have H1 := Lib.hid hz1; have H2 := Lib.hid hz2; have HL := Lib.hid hlen; clear hi hz0 hz1 hz2 hlen
  go_enter Try.func15, Try.ntmps15
  go_wp2_with (at_make; refine wpList_make_full _ rfl _ _ 25 rfl w.heap.size 2 i0 (.int .i64 0) 1 Try.underlying25 HI.out H0.out H1.out .i64 .i64 _ _ n rfl rfl rfl rfl (by rw [H2.out]; omega) (by unfold maxLen; omega) (Nat.le_refl _) ?_; rintro w1 hown1 hgrow1)
  go_loopw [4] (fun i wr => ∃ k : Nat, k ≤ n ∧ i = .int .i64 k ∧ wr.ownsRow w.heap.size 2 1 (.slice (some ⟨w.heap.size, 0, none⟩) n n) n (ints (xs.take k ++ zs (n - k))) ∧ Below w.heap.size w wr) (fun i _ => n - (intOf i).toNat)
  case atStart =>
    refine ⟨0, Nat.zero_le _, rfl, ?_, ?_⟩
    · rw [ints_zs] at hown1; simpa using hown1
    · exact (Below.refl _ _).grown hgrow1 (Nat.le_refl _) (by simp)
  case round =>
    obtain ⟨k, hk, rfl, hown, hb⟩ := hrel
    clear hown1 hgrow1
    by_cases hlt : k < n
    · have hu : xs[k]? = some (xs[k]'(by rw [HL.out]; exact hlt)) := by simp
      generalize xs[k]'(by rw [HL.out]; exact hlt) = u at hu
      obtain ⟨b, off, rfl, hbs, hc⟩ := hr.at_ (k := k) (u := .int .i64 u) (by simp [hu])
      have hc1 := (hb.cell (p := ⟨b, off + k, none⟩) hbs).trans hc
      obtain ⟨g, hg, _, _, hc2, hc3⟩ := own_get hown (fill_get xs n k HL.out hlt)
      obtain rfl : w.heap.size = g := by simpa using hg
      have HS := Lib.hid (own_put hown k (.int .i64 u)); have HU := Lib.hid hu; have HB := Lib.hid hb
      clear hu hc hown hb hg
      go_wp2_with fail
      go_roundw
      case rel => exact ⟨k + 1, by omega, by go_num, by rw [← fill_step xs n k HL.out hlt u HU.out]; exact HS.out, HB.out.setCell (Nat.le_refl _) _⟩
      case measure => simp [intOf]; omega
    · go_wp2_with fail
      go_ret
      obtain rfl : k = n := by omega
      refine ⟨some ⟨w.heap.size, 0, none⟩, k, k, rfl, ?_, hb⟩
      simpa [zs, List.take_of_length_le (Nat.le_of_eq HL.out)] using hown

set_option maxHeartbeats 400000 in
theorem eqInt64S_any (w : World) (A : Option Addr) (n c : Nat) (xs : List Int) (hr : Rd w A n (ints xs)) (hn : n ≤ 1099511627776)
    (A' : Option Addr) (n' c' : Nat) (ys : List Int) (hr' : Rd w A' n' (ints ys)) (hn' : n' ≤ 1099511627776) :
    Calls Try.prog 17 #[.slice A n c, .slice A' n' c'] w (RetV w (.bool (decide (xs = ys)))) := by
  have hlen : xs.length = n := by simpa using hr.1
  have hlen' : ys.length = n' := by simpa using hr'.1
  by_cases he : n = n'
  · subst he
    have HL := Lib.hid hlen; have HL' := Lib.hid hlen'; clear hlen hlen'
    go_enter Try.func17, Try.ntmps17
    go_wp2_with fail
    go_loopw [5] (fun i wr => ∃ k : Nat, k ≤ n ∧ i = .int .i64 k ∧ xs.take k = ys.take k ∧ Below w.heap.size w wr) (fun i _ => n - (intOf i).toNat)
    case atStart => exact ⟨0, Nat.zero_le _, rfl, by simp, Below.refl _ _⟩
    case round =>
      obtain ⟨k, hk, rfl, hsame, hb⟩ := hrel
      have HE := Lib.hid hsame; clear hsame
      by_cases hlt : k < n
      · have hu : xs[k]? = some (xs[k]'(by rw [HL.out]; exact hlt)) := by simp
        have hv : ys[k]? = some (ys[k]'(by rw [HL'.out]; exact hlt)) := by simp
        generalize xs[k]'(by rw [HL.out]; exact hlt) = u at hu
        generalize ys[k]'(by rw [HL'.out]; exact hlt) = v at hv
        obtain ⟨b, off, rfl, hbs, hc⟩ := hr.at_ (k := k) (u := .int .i64 u) (by simp [hu])
        obtain ⟨b', off', rfl, hbs', hc'⟩ := hr'.at_ (k := k) (u := .int .i64 v) (by simp [hv])
        have hc1 := (hb.cell (p := ⟨b, off + k, none⟩) hbs).trans hc
        have hc2 := (hb.cell (p := ⟨b', off' + k, none⟩) hbs').trans hc'
        have HU := Lib.hid hu; have HV := Lib.hid hv; have HB := Lib.hid hb
        clear hu hv hc hc' hb
        by_cases hne : u = v
        · subst hne
          have htest : (u != u) = false := by simp
          go_wp2_with fail
          go_quiet (fail)
          go_wp2_with fail
          go_roundw
          case rel => exact ⟨k + 1, by omega, by go_num, by rw [List.take_add_one, List.take_add_one, HU.out, HV.out, HE.out], by have := HB.out; exact ⟨this.os, this.tape, this.output, this.size, this.block⟩⟩
          case measure => simp [intOf]; omega
        · have htest : (u != v) = true := by simpa using hne
          have HN := Lib.hid hne; clear hne
          go_wp2_with fail
          go_quiet (fail)
          go_wp2_with fail
          go_ret
          refine ⟨?_, by have := HB.out; exact ⟨this.os, this.tape, this.output, this.size, this.block⟩⟩
          have : ¬ xs = ys := fun e => HN.out (by have h1 := HU.out; rw [e, HV.out] at h1; simpa using h1.symm)
          simp [this]
      · go_wp2_with fail
        go_ret
        obtain rfl : k = n := by omega
        refine ⟨?_, hb⟩
        have : xs = ys := by
          have h := HE.out
          rwa [List.take_of_length_le (Nat.le_of_eq HL.out), List.take_of_length_le (Nat.le_of_eq HL'.out)] at h
        simp [this]
  · have h1 : ((n : Int) != (n' : Int)) = true := by simp; omega
    have hne : ¬ xs = ys := fun e => he (by rw [← hlen, ← hlen', e])
    have HN := Lib.hid hne
    clear hlen hlen' he hne
    go_enter Try.func17, Try.ntmps17
    go_wp2_with fail
    go_ret
    exact ⟨by simp [HN.out], Below.refl _ _⟩

/-- k, k + 1, .., n numbers. -/
def up : Int → Nat → List Int
  | _, 0 => []
  | k, n + 1 => k :: up (k + 1) n
theorem up_length (k : Int) (n : Nat) : (up k n).length = n := by
  induction n generalizing k with
  | zero => rfl
  | succ n ih => simp [up, ih]
theorem up_get (k : Int) (n i : Nat) (h : i < n) : (up k n)[i]? = some (k + i) := by
  induction n generalizing k i with
  | zero => omega
  | succ n ih =>
    cases i with
    | zero => simp [up]
    | succ i => simp only [up, List.getElem?_cons_succ]; rw [ih _ _ (by omega)]; congr 1; omega
theorem mark_step (k : Int) (xs : List Int) (n i : Nat) (h : xs.length = n) (hi : i < n) :
    (ints (up k i ++ xs.drop i)).set i (.int .i64 (k + i)) = ints (up k (i + 1) ++ xs.drop (i + 1)) := by
  apply List.ext_getElem?
  intro j
  rw [List.getElem?_set]
  simp only [ints, List.getElem?_map, List.getElem?_append, up_length, List.length_map, List.length_append, List.length_drop]
  by_cases h1 : i = j
  · subst h1
    rw [if_pos rfl, if_pos (by omega), if_pos (by omega), up_get _ _ _ (by omega)]; rfl
  · rw [if_neg h1]
    by_cases h2 : j < i
    · rw [if_pos h2, if_pos (by omega), up_get _ _ _ h2, up_get _ _ _ (by omega)]
    · rw [if_neg h2, if_neg (by omega), List.getElem?_drop, List.getElem?_drop]; congr 2; omega
theorem mark_get (k : Int) (xs : List Int) (n i : Nat) (h : xs.length = n) (hi : i < n) : ∃ u, (ints (up k i ++ xs.drop i))[i]? = some (.int .i64 u) := by
  refine ⟨xs[i]'(by omega), ?_⟩
  simp only [ints, List.getElem?_map, List.getElem?_append, up_length]
  rw [if_neg (by omega), List.getElem?_drop]; simp

set_option maxHeartbeats 400000 in
theorem markInt64S_any (w : World) (base : Nat) (A : Option Addr) (n c : Nat) (xs : List Int) (ho : w.ownsRow base 2 1 (.slice A n c) n (ints xs)) (hn : n ≤ 1099511627776) (k : Int) (hk0 : 0 ≤ k) (hk1 : k ≤ 1099511627776) :
    Calls Try.prog 20 #[.slice A n c, .int .i64 k] w fun e w' => e = .returned (.int .i64 (k + n)) ∧ w'.ownsRow base 2 1 (.slice A n c) n (ints (up k n)) ∧ w.grownBy w' (Value.ownBlock (.slice A n c)) := by
  have hlen : xs.length = n := by simpa using ho.1
  have HL := Lib.hid hlen; clear hlen
  go_enter Try.func20, Try.ntmps20
  go_wp2_with fail
  go_loopw [1, 5] (fun q i wr => ∃ j : Nat, j ≤ n ∧ i = .int .i64 j ∧ q = .int .i64 (k + j) ∧ wr.ownsRow base 2 1 (.slice A n c) n (ints (up k j ++ xs.drop j)) ∧ w.grownBy wr (Value.ownBlock (.slice A n c))) (fun _ i _ => n - (intOf i).toNat)
  case atStart => exact ⟨0, Nat.zero_le _, rfl, by simp, by simpa [up] using ho, World.grownBy.refl _ _⟩
  case round =>
    obtain ⟨j, hj, rfl, rfl, hown, hg⟩ := hrel
    clear ho
    by_cases hlt : j < n
    · obtain ⟨u, hu⟩ := mark_get k xs n j HL.out hlt
      obtain ⟨g, rfl, hbg, hgs, hc2, hc3⟩ := own_get hown hu
      have HS := Lib.hid (own_put hown j (.int .i64 (k + j))); have HG := Lib.hid hg; have HG2 := Lib.hid (hown.stored j (.int .i64 (k + j))).2
      clear hu hown hg
      go_wp2_with fail
      go_roundw
      case rel => exact ⟨j + 1, by omega, by go_num, by go_num, by rw [← mark_step k xs n j HL.out hlt]; exact HS.out, HG.out.trans HG2.out⟩
      case measure => simp [intOf]; omega
    · go_wp2_with fail
      go_ret
      obtain rfl : j = n := by omega
      refine ⟨rfl, ?_, hg⟩
      simpa [List.drop_of_length_le (Nat.le_of_eq HL.out)] using hown

set_option maxHeartbeats 400000 in
theorem heldInt64S_any (w : World) (A : Option Addr) (n c : Nat) (k : Int) (hr : Rd w A n (ints (up k n))) (hn : n ≤ 1099511627776) (hk0 : 0 ≤ k) (hk1 : k ≤ 1099511627776) :
    Calls Try.prog 21 #[.slice A n c, .int .i64 k] w (RetV w (.int .i64 (k + n))) := by
  go_enter Try.func21, Try.ntmps21
  go_wp2_with fail
  go_loopw [1, 5] (fun q i wr => ∃ j : Nat, j ≤ n ∧ i = .int .i64 j ∧ q = .int .i64 (k + j) ∧ Below w.heap.size w wr) (fun _ i _ => n - (intOf i).toNat)
  case atStart => exact ⟨0, Nat.zero_le _, rfl, by simp, Below.refl _ _⟩
  case round =>
    obtain ⟨j, hj, rfl, rfl, hb⟩ := hrel
    by_cases hlt : j < n
    · obtain ⟨b, off, rfl, hbs, hc⟩ := hr.at_ (k := j) (u := .int .i64 (k + j)) (by simp [up_get _ _ _ hlt])
      have hc1 := (hb.cell (p := ⟨b, off + j, none⟩) hbs).trans hc
      have htest : (k + (j : Int) != k + (j : Int)) = false := by simp
      clear hc
      go_wp2_with fail
      go_roundw
      case rel => exact ⟨j + 1, by omega, by go_num, by go_num, hb⟩
      case measure => simp [intOf]; omega
    · go_wp2_with fail
      go_ret
      obtain rfl : j = n := by omega
      exact ⟨rfl, hb⟩
/-- A slice of integers that came in reads as its elements. -/
theorem rd_of_row {w : World} {a : Option Addr} {len cap : Nat} {zs : List Int}
    (h : (a = none ∧ len = 0 ∧ cap = 0 ∧ zs = []) ∨ ∃ x, a = some x ∧ len ≤ cap ∧ cap ≤ maxLen ∧ zs.length = cap ∧ (∀ i, i < zs.length → w.cell? (x.add i) = some (.int .i64 (zs.getD i 0))) ∧ ∀ n ∈ zs, (Lit.int .i64 n).wf = true) :
    Rd w a len (ints (zs.take len)) := by
  rcases h with ⟨rfl, rfl, rfl, rfl⟩ | ⟨x, rfl, hlc, _, hz, hc, _⟩
  · exact Rd.nil _ _
  · refine ⟨by simp; omega, fun hn => ?_⟩
    obtain ⟨b, off, rfl, hc'⟩ := ints_at hc (by omega)
    refine ⟨b, off, rfl, ?_, fun j u hj => ?_⟩
    · have := hc' 0 (by omega)
      exact World.block_lt_of_cell? w _ this
    · simp only [ints, List.getElem?_map, List.getElem?_take] at hj
      split at hj
      · rename_i hjl
        have := hc' j (by omega)
        rw [this]
        have hjz : j < zs.length := by omega
        simp [hjz] at hj ⊢
        exact hj
      · cases hj

theorem mark_keep {w w' : World} {lo e n : Nat} {v v2 : Value} {vs : List Value} (h : w.ownsRow lo e 1 v n vs) (hg : w.grownBy w' v2.ownBlock) (hne : ∀ k, v.ownBlock = some k → v2.ownBlock = some k → False) : w'.ownsRow lo e 1 v n vs := by
  refine h.kept hg ?_
  cases hv : v.ownBlock with
  | none => exact .inl rfl
  | some k => exact .inr fun he => hne k hv he.symm
theorem eq_same (w : World) (A : Option Addr) (n c : Nat) (xs : List Int) (hr : Rd w A n (ints xs)) (hn : n ≤ 1099511627776) (A' : Option Addr) (n' c' : Nat) (hr' : Rd w A' n' (ints xs)) :
    Calls Try.prog 17 #[.slice A n c, .slice A' n' c'] w (RetV w (.bool true)) := by
  have hlen : xs.length = n := by simpa using hr.1
  have hlen' : xs.length = n' := by simpa using hr'.1
  have h := eqInt64S_any w A n c xs hr hn A' n' c' xs hr' (by omega)
  simpa using h
end Go.Proofs.Ytjgajjcgapifoaa
