/- Small words that all texts share: bounds, the tests within, l00In, allWithin; results that are a list and a code. -/
import Derived.Test.YtfjlbfnjnkaooaaRows
import Derived.Test.YtfjlbfnjnkaooaaMem2
import Derived.Deep.QuietTactic
import Derived.BigQuiet
import Derived.Deep.RegionHeld3
import Derived.Deep.DeepCutAuto
import Derived.OneCell
namespace Go.Proofs.Ytfjlbfnjnkaooaa
open Go.RowKit

theorem drop_get {α : Type} {xs : List α} {k : Nat} {x : α} (h : xs[k]? = some x) : xs.drop k = x :: xs.drop (k + 1) := by
  obtain ⟨hk, rfl⟩ := List.getElem?_eq_some_iff.1 h
  exact List.drop_eq_getElem_cons hk
theorem get_some {α : Type} {xs : List α} {k : Nat} (h : k < xs.length) : ∃ u, xs[k]? = some u := ⟨xs[k], by simp⟩
theorem ints_get {xs : List Int} {k : Nat} {x : Int} (h : xs[k]? = some x) : (ints xs)[k]? = some (.int .i64 x) := by simp [h]
def inB (n lo hi : Int) : Bool := decide (lo ≤ n ∧ n ≤ hi)
theorem inB_true {n lo hi : Int} : inB n lo hi = true ↔ lo ≤ n ∧ n ≤ hi := by simp [inB]
theorem inB_false {n lo hi : Int} : inB n lo hi = false ↔ ¬ (lo ≤ n ∧ n ≤ hi) := by simp [inB]
def allIn (xs : List Int) (lo hi : Int) : Bool := xs.all fun x => inB x lo hi
theorem allIn_true {xs : List Int} {lo hi : Int} : allIn xs lo hi = true ↔ ∀ x ∈ xs, lo ≤ x ∧ x ≤ hi := by simp [allIn, inB]
theorem allIn_take_step {xs : List Int} {lo hi x : Int} {k : Nat} (h : allIn (xs.take k) lo hi = true) (hx : xs[k]? = some x) (hi' : inB x lo hi = true) : allIn (xs.take (k + 1)) lo hi = true := by
  rw [List.take_add_one, hx]
  simp only [allIn, List.all_append, Bool.and_eq_true] at h ⊢
  exact ⟨h, by simp [hi']⟩
theorem allIn_out {xs : List Int} {lo hi x : Int} {k : Nat} (hx : xs[k]? = some x) (hi' : inB x lo hi = false) : allIn xs lo hi = false := by
  obtain ⟨hk, rfl⟩ := List.getElem?_eq_some_iff.1 hx
  simp only [allIn, List.all_eq_false]
  exact ⟨_, List.getElem_mem hk, by simp [hi']⟩

set_option maxHeartbeats 400000 in
theorem within_any (w : World) (n lo hi : Int) : Calls Try.prog 65 #[.int .i64 n, .int .i64 lo, .int .i64 hi] w fun e w' => e = .returned (.bool (inB n lo hi)) ∧ w = w' := by
  by_cases h1 : lo ≤ n
  · have b1 : decide (lo ≤ n) = true := by simpa using h1
    by_cases h2 : n ≤ hi
    · have b2 : decide (n ≤ hi) = true := by simpa using h2
      have HB := Lib.hid (inB_true.2 ⟨h1, h2⟩)
      clear h1 h2
      go_enter Try.func65, Try.ntmps65
      go_wp2_with fail
      go_ret
      exact ⟨by rw [HB.out]; rfl, rfl⟩
    · have b2 : decide (n ≤ hi) = false := by simpa using h2
      have HB := Lib.hid (inB_false.2 (fun h => h2 h.2) : inB n lo hi = false)
      clear h1 h2
      go_enter Try.func65, Try.ntmps65
      go_wp2_with fail
      go_ret
      exact ⟨by rw [HB.out]; rfl, rfl⟩
  · have b1 : decide (lo ≤ n) = false := by simpa using h1
    have HB := Lib.hid (inB_false.2 (fun h => h1 h.1) : inB n lo hi = false)
    clear h1
    go_enter Try.func65, Try.ntmps65
    go_wp2_with fail
    go_ret
    exact ⟨by rw [HB.out]; rfl, rfl⟩

set_option maxHeartbeats 400000 in
theorem allWithin_any (w : World) (A : Option Addr) (n c : Nat) (xs : List Int) (hr : Rd w A n (ints xs)) (hn : n ≤ 1099511627776) (lo hi : Int) :
    Calls Try.prog 51 #[.slice A n c, .int .i64 lo, .int .i64 hi] w fun e w' => e = .returned (.bool (allIn xs lo hi)) ∧ w = w' := by
  have hlen : xs.length = n := by simpa using hr.1
  have HL := Lib.hid hlen; clear hlen
  go_enter Try.func51, Try.ntmps51
  go_wp2_with fail
  go_loop [11] (fun q => ∃ k : Nat, k ≤ n ∧ q = .int .i64 k ∧ Hid (allIn (xs.take k) lo hi = true)) (fun q => n - (intOf q).toNat)
  case atStart => exact ⟨0, Nat.zero_le _, rfl, Lib.hid (by simp [allIn])⟩
  case round =>
    obtain ⟨k, hk, rfl, hall⟩ := hrel
    by_cases h1 : k < n
    · obtain ⟨x, hx⟩ := get_some (xs := xs) (k := k) (by rw [HL.out]; omega)
      obtain ⟨b, off, rfl, hbk, hcx⟩ := hr.at_ (ints_get hx)
      have HX := Lib.hid hx
      clear hx
      by_cases hin : inB x lo hi = true
      · go_wp2_with (go_at_call 65; refine (within_any _ _ _ _).mono ?_; rintro e w' ⟨rfl, rfl⟩)
        go_round
        case rel => exact ⟨k + 1, by omega, by go_num, Lib.hid (allIn_take_step hall.out HX.out hin)⟩
        case measure => simp [intOf]; omega
      · have hin' : inB x lo hi = false := by simpa using hin
        clear hin
        go_wp2_with (go_at_call 65; refine (within_any _ _ _ _).mono ?_; rintro e w' ⟨rfl, rfl⟩)
        go_ret
        exact ⟨by rw [allIn_out HX.out hin']; rfl, rfl⟩
    · go_wp2_with fail
      go_ret
      have h := hall.out
      rw [List.take_of_length_le (by rw [HL.out]; omega)] at h
      exact ⟨by rw [h]; rfl, rfl⟩

/-- A list and a code. -/
def RetSI (w : World) (e : TypeId) (vs : List Value) (code : Int) (en : Ending) (w' : World) : Prop :=
  ∃ A n c, en = .returned (.tuple #[.slice A n c, .int .i64 code]) ∧ w'.ownsRow w.heap.size e 1 (.slice A n c) n vs ∧ Below w.heap.size w w'
theorem own_nil (w : World) (base e : Nat) : w.ownsRow base e 1 (.slice none 0 0) 0 [] := World.ownsRow_nil w base e 1
/-- A list and a bool. -/
def RetSB (w : World) (e : TypeId) (vs : List Value) (ok : Bool) (en : Ending) (w' : World) : Prop :=
  ∃ A n c, en = .returned (.tuple #[.slice A n c, .bool ok]) ∧ w'.ownsRow w.heap.size e 1 (.slice A n c) n vs ∧ Below w.heap.size w w'
/-- Memory outside a range of blocks is as it was. -/
structure Outside (lo hi : Nat) (w w' : World) : Prop where
  os : w'.os = w.os
  tape : w'.tape = w.tape
  output : w'.output = w.output
  size : w.heap.size ≤ w'.heap.size
  block : ∀ k, k < w.heap.size → (k < lo ∨ hi ≤ k) → w'.heap[k]? = w.heap[k]?
theorem Outside.refl (lo hi : Nat) (w : World) : Outside lo hi w w := ⟨rfl, rfl, rfl, Nat.le_refl _, fun _ _ _ => rfl⟩
theorem Outside.trans {lo hi : Nat} {a b c : World} (h : Outside lo hi a b) (k : Outside lo hi b c) : Outside lo hi a c :=
  ⟨k.os.trans h.os, k.tape.trans h.tape, k.output.trans h.output, Nat.le_trans h.size k.size, fun i hi' ho => (k.block i (Nat.lt_of_lt_of_le hi' h.size) ho).trans (h.block i hi' ho)⟩
theorem out_grown {lo hi : Nat} {w w' : World} {row : Option Nat} (hg : w.grownBy w' row) (hr : ∀ k, row = some k → lo ≤ k ∧ k < hi) : Outside lo hi w w' :=
  ⟨hg.os, hg.tape, hg.output, hg.size, fun k hk ho => hg.block k hk (fun e => by have := hr k e.symm; omega)⟩
theorem below_out {B lo hi : Nat} {a w w' : World} (h : Below B a w) (ho : Outside lo hi w w') (hB : B ≤ lo) (hs : B ≤ w.heap.size) : Below B a w' :=
  h.trans ⟨ho.os, ho.tape, ho.output, ho.size, fun k hk => ho.block k (by omega) (.inl (by omega))⟩
theorem own_out {w w' : World} {base e n lo hi a b : Nat} {v : Value} {vs : List Value} (h : w.ownsRow base e 1 v n vs) (hr : ∀ k, v.ownBlock = some k → a ≤ k ∧ k < b) (ho : Outside lo hi w w') (hd : b ≤ lo ∨ hi ≤ a) : w'.ownsRow base e 1 v n vs := by
  refine ⟨h.1, ?_⟩
  rcases h.2 with h' | ⟨g, cap, cur, rfl, hb, hg, r⟩
  · exact .inl h'
  · have := hr g rfl
    exact .inr ⟨g, cap, cur, rfl, hb, (ho.block g (Array.getElem?_eq_some_iff.1 hg).1 (by omega)).trans hg, r⟩
theorem own_set_far {w : World} {base e n g i T : Nat} {v u : Value} {vs : List Value} {cs : Array Value} (h : w.ownsRow base e 1 v n vs) (hgp : w.heap[g]? = some (.cells cs T (0, 0))) (hT : T ≠ e) : (w.setCell ⟨g, i, none⟩ u).ownsRow base e 1 v n vs := by
  refine ⟨h.1, ?_⟩
  rcases h.2 with h' | ⟨g', cap, cur, h', hb, hg', r⟩
  · exact .inl h'
  · refine .inr ⟨g', cap, cur, h', hb, ?_, r⟩
    rw [Below.heap_setCell _ _ _ _ (fun e1 => ?_)]
    · exact hg'
    · simp at e1; subst e1
      rw [hgp] at hg'
      injection hg' with hg'
      injection hg' with _ h2
      exact hT h2
theorem blk_lt {w : World} {g T : Nat} {cs : Array Value} {f : Nat × Nat} (h : w.heap[g]? = some (.cells cs T f)) : g < w.heap.size := (Array.getElem?_eq_some_iff.1 h).1
theorem blk_below {w w' : World} {g T B : Nat} {cs : Array Value} (h : w.heap[g]? = some (.cells cs T (0, 0))) (hb : Below B w w') (hg : g < B) : w'.heap[g]? = some (.cells cs T (0, 0)) := (hb.block g hg).trans h
theorem blk_far {w : World} {g T : Nat} {cs : Array Value} {p : Addr} {u : Value} (h : w.heap[g]? = some (.cells cs T (0, 0))) (hne : g ≠ p.block) : (w.setCell p u).heap[g]? = some (.cells cs T (0, 0)) := (Below.heap_setCell w p u g hne).trans h
theorem blk_alloc {w : World} {g T : Nat} {cs : Array Value} (h : w.heap[g]? = some (.cells cs T (0, 0))) (o : Obj) : (w.alloc o).heap[g]? = some (.cells cs T (0, 0)) := (Below.heap_alloc w o g (blk_lt h)).trans h
theorem blk_ne {w : World} {g g' T T' : Nat} {cs cs' : Array Value} (h : w.heap[g]? = some (.cells cs T (0, 0))) (h' : w.heap[g']? = some (.cells cs' T' (0, 0))) (hT : T ≠ T') : g ≠ g' := by
  rintro rfl
  rw [h] at h'
  injection h' with h'
  injection h' with _ h2
  exact hT h2
theorem own_blk {w : World} {base e n c g : Nat} {vs : List Value} (h : w.ownsRow base e 1 (.slice (some ⟨g, 0, none⟩) n c) n vs) : ∃ cs, w.heap[g]? = some (.cells cs e (0, 0)) := by
  rcases h.2 with ⟨h', _⟩ | ⟨g', cap, cur, h', _, hg, _⟩
  · simp at h'
  · injection h' with h1
    injection h1 with h1
    injection h1 with h1
    subst h1
    exact ⟨cur, hg⟩
theorem outer_keep {w w' : World} {lo e T n : Nat} {v v2 : Value} {us : List Value} (h : w.ownsRow lo T 1 v n us) {m : Nat} {xs : List Value} (h2 : w.ownsRow lo e 1 v2 m xs) (hT : T ≠ e) (hg : w.grownBy w' v2.ownBlock) : w'.ownsRow lo T 1 v n us := by
  refine own_apart h hg (fun k a b => ?_)
  rcases h.2 with ⟨rfl, _⟩ | ⟨g, _, _, rfl, _, hg1, _⟩
  · simp [Value.ownBlock] at a
  · rcases h2.2 with ⟨rfl, _⟩ | ⟨g2, _, _, rfl, _, hg2, _⟩
    · simp [Value.ownBlock] at b
    · have e1 : g = k := by simpa [Value.ownBlock] using a
      have e2 : g2 = k := by simpa [Value.ownBlock] using b
      exact blk_ne hg1 hg2 hT (by omega)
end Go.Proofs.Ytfjlbfnjnkaooaa
