/- Words: turned round, compared, ranked, read back. -/
import Derived.Test.YtgnboemmlohahaaWrM
import Derived.Test.YtgnboemmlohahaaGA
import Derived.Test.YtgnboemmlohahaaSrc
import Derived.RegionTactic
import Derived.ChangeAlike
namespace Go.Proofs.Ytgnboemmlohahaa
open Go.RowKit
set_option linter.unusedVariables false
set_option linter.unusedSimpArgs false
def RevPost (w : World) (base g n c : Nat) (ys : List Int) (e : Ending) (w' : World) : Prop := e = .returned (.tuple #[]) ∧ w'.ownsRow base 2 1 (.slice (some ⟨g, 0, none⟩) n c) n (ints ys) ∧ Below base w w'
theorem cmpL_ne {x y : Int} {r s : List Int} (h : sgn x y ≠ 0) : cmpL (x :: r) (y :: s) = sgn x y := by
  unfold sgn at h ⊢
  simp only [cmpL]
  split
  · rfl
  · split
    · rfl
    · rename_i h1 h2; simp [h1, h2] at h
theorem cmpL_eq {x y : Int} {r s : List Int} (h : sgn x y = 0) : cmpL (x :: r) (y :: s) = cmpL r s := by
  unfold sgn at h
  simp only [cmpL]
  split at h
  · omega
  · split at h
    · omega
    · rename_i h1 h2; simp [h1, h2]
theorem allIn_mono {xs : List Int} {lo hi hi' : Int} (h : allIn xs lo hi = true) (hh : hi ≤ hi') : allIn xs lo hi' = true := allIn_true.2 fun x hx => by have := allIn_true.1 h x hx; omega
theorem allIn_take {xs : List Int} {lo hi : Int} (h : allIn xs lo hi = true) (k : Nat) : allIn (xs.take k) lo hi = true := allIn_true.2 fun x hx => allIn_true.1 h x (List.mem_of_mem_take hx)
theorem rk_pos {L : Int} (h1 : 1 ≤ L) (h4 : L ≤ 4) {xs : List Int} {k : Nat} (hk : k < xs.length) (hl : xs.length ≤ 8) (ha : allIn xs 0 (L - 1) = true) : ∃ x, xs[k]? = some x ∧ 0 ≤ x ∧ x ≤ L - 1 ∧ rk L (xs.take (k + 1)) = rk L (xs.take k) * L + x + 1 ∧ 0 ≤ rk L (xs.take k) := by
  obtain ⟨x, hx⟩ := get_some hk
  obtain ⟨a, b⟩ := allIn_true.1 ha x (List.mem_of_getElem? hx)
  exact ⟨x, hx, a, b, by rw [List.take_add_one, hx]; exact rk_snoc L _ _, (rk_small h1 h4 (by simp; omega) (allIn_take ha k)).1⟩
def WordPost (w : World) (xs : List Int) (e : Ending) (w' : World) : Prop := RetSI w 2 (ints xs) 0 e w'
set_option maxHeartbeats 1000000 in
theorem r8Same_same (w : World) (A A' : Option Addr) (n c n' c' : Nat) (xs : List Int) (hr : Rd w A n (ints xs)) (hr' : Rd w A' n' (ints xs)) (hn : n ≤ 1000000000) :
    Calls Try.prog 11 #[.slice A n c, .slice A' n' c'] w (RetV w (.bool true)) := by
  have HL : Hid (xs.length = n) := Lib.hid (by simpa using hr.1)
  obtain rfl : n' = n := by have h1 := hr.1; have h2 := hr'.1; simp at h1 h2; omega
  have h0 : ((n' : Int) != (n' : Int)) = false := by simp
  go_enter Try.func11, Try.ntmps11
  go_wp2_with fail
  go_loopw [5] (fun q wr => ∃ k : Nat, k ≤ n' ∧ q = .int .i64 k ∧ Below w.heap.size w wr) (fun q _ => n' - (intOf q).toNat)
  case atStart => exact ⟨0, Nat.zero_le _, rfl, Below.refl _ _⟩
  case round =>
    obtain ⟨k, hk, rfl, hb⟩ := hrel
    by_cases h1 : k < n'
    · obtain ⟨x, hx⟩ := get_some (xs := xs) (k := k) (by rw [HL.out]; omega)
      obtain ⟨b, off, rfl, hbk, hcx⟩ := hr.at_ (ints_get hx)
      obtain ⟨b', off', rfl, hbk', hcy⟩ := hr'.at_ (ints_get hx)
      have c1 := (hb.cell (p := ⟨b, off + k, none⟩) hbk).trans hcx
      have c2 := (hb.cell (p := ⟨b', off' + k, none⟩) hbk').trans hcy
      have hi0 : (0 : Int) ≤ (k : Int) := by omega
      have hi1 : (k : Int) < (n' : Int) := by omega
      have hne : (x != x) = false := by simp
      have HBB := Lib.hid hb
      clear hx hcx hcy hb
      go_wp2_with fail
      go_quiet (fail)
      go_wp2_with fail
      go_roundw
      case rel => exact ⟨k + 1, by omega, by go_num, below_drewN HBB.out⟩
      case measure => simp [intOf]; omega
    · go_wp2_with fail
      go_ret
      exact ⟨rfl, hb⟩
theorem ints_snoc' (xs : List Int) (x : Int) : ints xs ++ [.int .i64 x] = ints (xs ++ [x]) := by simp
theorem own_blk_not {w : World} {base e s n g T : Nat} {v : Value} {vs : List Value} {cs : Array Value} (hg : w.heap[g]? = some (.cells cs T (0, 0))) (hT : T ≠ e) (h : w.ownsRow base e s v n vs) : ¬ Fo v g := fun hf => by
  rcases h.2 with ⟨rfl, _⟩ | ⟨g', cap, cur, rfl, _, hgg, _⟩
  · simp [Fo, Value.ownBlock] at hf
  · obtain rfl : g' = g := by simpa [Fo, Value.ownBlock] using hf
    exact blk_ne hg hgg hT rfl
def R8W (w : World) (e : Ending) (w' : World) : Prop := ∃ (A : Option Addr) (n c : Nat) (xs : List Int) (L : Int), e = .returned (.tuple #[.slice A n c, .int .i64 L]) ∧ w'.ownsRow w.heap.size 2 1 (.slice A n c) n (ints xs) ∧ n ≤ 8 ∧ 1 ≤ L ∧ L ≤ 4 ∧ allIn xs 0 (L - 1) = true ∧ Below w.heap.size w w'
set_option maxHeartbeats 400000 in
theorem l00From_any (w : World) (A : Option Addr) (n c : Nat) : Calls Try.prog 12 #[.slice A n c] w fun e w' => e = .returned (.pointer (some ⟨w.heap.size, 0, none⟩)) ∧ w' = w.alloc (.cells #[.slice A n c, .int .i64 0, .int .u64 0] 61) := by
  go_enter Try.func12, Try.ntmps12
  go_wp2_with fail
  go_ret
  exact ⟨rfl, rfl⟩
theorem snoc_in {xs : List Int} {L x : Int} (h : allIn xs 0 (L - 1) = true) (h0 : 0 ≤ x) (h1 : x ≤ L - 1) : allIn (xs ++ [x]) 0 (L - 1) = true := by
  rw [allIn_true] at h ⊢
  intro y hy
  rcases List.mem_append.1 hy with hy | hy
  · exact h y hy
  · have := List.mem_singleton.1 hy; omega
end Go.Proofs.Ytgnboemmlohahaa
