/- ReplacePart: the plain law, and the reference's search for a part. -/
import Derived.Test.YtnfkmcphkecemaaTreeL
import Derived.Test.YtnfkmcphkecemaaMirr2
namespace Go.Proofs.Ytnfkmcphkecemaa
open Go.RowKit

/-- The tree with the part at a path replaced, and whether there is such a part. -/
def repl (y : Tr) : Tr → List Int → Tr × Bool
  | _, [] => (y, true)
  | .nil, _ :: _ => (.nil, false)
  | .node h t, x :: r => if x = 0 then (.node (repl y h r).1 t, (repl y h r).2) else (.node h (repl y t r).1, (repl y t r).2)
/-- Where the part at a path begins. -/
def pos : Tr → List Int → Option Nat
  | _, [] => some 0
  | .nil, _ :: _ => none
  | .node h t, x :: r => if x = 0 then (pos h r).map (1 + ·) else (pos t r).map (1 + h.nodes + ·)
theorem repl_nodes (y : Tr) : ∀ (p : List Int) (t : Tr), (repl y t p).1.nodes ≤ t.nodes + y.nodes
  | [], t => by cases t <;> simp [repl]
  | x :: r, .nil => by simp [repl, Tr.nodes]
  | x :: r, .node h t => by
    have h1 := repl_nodes y r h
    have h2 := repl_nodes y r t
    simp only [repl]
    split
    · simp only [Tr.nodes]; omega
    · simp only [Tr.nodes]; omega
theorem repl_none (y : Tr) : ∀ (p : List Int) (t : Tr), pos t p = none → (repl y t p).2 = false
  | [], t, h => by cases t <;> simp [pos] at h
  | x :: r, .nil, _ => by simp [repl]
  | x :: r, .node h t, e => by
    simp only [pos] at e
    simp only [repl]
    split
    · rename_i h0; rw [if_pos h0] at e; exact repl_none y r h (by simpa using e)
    · rename_i h0; rw [if_neg h0] at e; exact repl_none y r t (by simpa using e)
theorem repl_some (y : Tr) : ∀ (p : List Int) (t : Tr) (k : Nat), pos t p = some k → (repl y t p).2 = true ∧ ∃ (s : Tr) (l r : List Bool), t.bits = l ++ s.bits ++ r ∧ l.length = k ∧ (repl y t p).1.bits = l ++ y.bits ++ r
  | [], t, k, h => by
    have : k = 0 := by cases t <;> simp [pos] at h <;> omega
    subst this
    have e : repl y t [] = (y, true) := by cases t <;> rfl
    rw [e]
    exact ⟨rfl, t, [], [], by simp, rfl, by simp⟩
  | x :: r, .nil, k, h => by simp [pos] at h
  | x :: r, .node h t, k, e => by
    simp only [pos] at e
    simp only [repl]
    split
    · rename_i h0
      rw [if_pos h0] at e
      obtain ⟨k', e', rfl⟩ := Option.map_eq_some_iff.1 e
      obtain ⟨h1, s, l, r', h2, h3, h4⟩ := repl_some y r h k' e'
      exact ⟨h1, s, true :: l, r' ++ t.bits, by simp [Tr.bits, h2], by simp [h3]; omega, by simp [Tr.bits, h4]⟩
    · rename_i h0
      rw [if_neg h0] at e
      obtain ⟨k', e', rfl⟩ := Option.map_eq_some_iff.1 e
      obtain ⟨h1, s, l, r', h2, h3, h4⟩ := repl_some y r t k' e'
      exact ⟨h1, s, true :: (h.bits ++ l), r', by simp [Tr.bits, h2], by simp [h3, Tr.bits_len]; omega, by simp [Tr.bits, h4]⟩
theorem endAt_tree {bs : List Bool} {k : Nat} {s : Tr} {r : List Bool} (h : bs.drop k = s.bits ++ r) (hk : k ≤ bs.length) : endAt bs k = (k + s.nodes, true) ∧ k + s.nodes ≤ bs.length ∧ bs.drop (k + s.nodes) = r := by
  have hd : bs.drop (k + s.nodes) = r := by rw [← List.drop_drop, h, ← s.bits_len]; simp
  have hl : (bs.drop k).length = s.nodes + r.length := by rw [h]; simp [Tr.bits_len]
  simp only [List.length_drop] at hl
  refine ⟨endAt_some ?_ (by omega), by omega, hd⟩
  rw [h, hd, scan_bits]
  cases r <;> rfl
def pathOk (p : List Int) : Bool := decide (p.length ≤ 100) && allIn p 0 1
theorem bit_cases {x : Int} (h : inB x 0 1 = true) : x = 0 ∨ x = 1 := by have := inB_true.1 h; omega

set_option maxHeartbeats 800000 in
theorem l21Path_any (w : World) (A : Option Addr) (n c : Nat) (xs : List Int) (hr : Rd w A n (ints xs)) (hn : n ≤ 1099511627776) :
    Calls Try.prog 75 #[.slice A n c] w fun e w' => e = .returned (.bool (pathOk xs)) ∧ w = w' := by
  have HL : Hid (xs.length = n) := Lib.hid (by simpa using hr.1)
  go_enter Try.func75, Try.ntmps75
  go_wp2_with fail
  go_loop [3] (fun q => ∃ k : Nat, k ≤ n ∧ q = .int .i64 k ∧ Hid (allIn (xs.take k) 0 1 = true)) (fun q => n - (intOf q).toNat)
  case atStart => exact ⟨0, Nat.zero_le _, rfl, Lib.hid (by simp [allIn])⟩
  case round =>
    obtain ⟨k, hk, rfl, hall⟩ := hrel
    by_cases h1 : k < n
    · obtain ⟨x, hx⟩ := get_some (xs := xs) (k := k) (by rw [HL.out]; omega)
      obtain ⟨b, off, rfl, hbk, hcx⟩ := hr.at_ (ints_get hx)
      have HX := Lib.hid hx
      clear hx
      by_cases hin : inB x 0 1 = true
      · rcases bit_cases hin with rfl | rfl
        · go_wp2_with fail
          go_round
          case rel => exact ⟨k + 1, by omega, by go_num, Lib.hid (allIn_take_step hall.out HX.out hin)⟩
          case measure => simp [intOf]; omega
        · go_wp2_with fail
          go_round
          case rel => exact ⟨k + 1, by omega, by go_num, Lib.hid (allIn_take_step hall.out HX.out hin)⟩
          case measure => simp [intOf]; omega
      · have hin' : inB x 0 1 = false := by simpa using hin
        have HN := Lib.hid (allIn_out HX.out hin')
        have t1 : (x != 0) = true := by simp; rintro rfl; simp [inB] at hin'
        have t2 : (x != 1) = true := by simp; rintro rfl; simp [inB] at hin'
        have n1 : ¬ x = 0 := by simpa using t1
        have n2 : ¬ x = 1 := by simpa using t2
        clear hin hin'
        go_wp2_with fail
        go_ret
        exact ⟨by rw [pathOk, HN.out]; simp, rfl⟩
    · have h := hall.out
      rw [List.take_of_length_le (by rw [HL.out]; omega)] at h
      by_cases h100 : n ≤ 100
      · have HP : Hid (pathOk xs = true) := Lib.hid (by simp [pathOk, h, HL.out, h100])
        have hb : decide ((n : Int) ≤ 100) = true := by simp; omega
        clear h
        go_wp2_with fail
        go_ret
        exact ⟨by rw [HP.out]; rfl, rfl⟩
      · have HP : Hid (pathOk xs = false) := Lib.hid (by simp [pathOk, HL.out, h100])
        have hb : decide ((n : Int) ≤ 100) = false := by simp; omega
        clear h
        go_wp2_with fail
        go_ret
        exact ⟨by rw [HP.out]; rfl, rfl⟩

def posRes (o : Option Nat) : Value := match o with
  | some k => .tuple #[.int .i64 k, .bool true]
  | none => .tuple #[.int .i64 0, .bool false]

set_option maxHeartbeats 1600000 in
theorem l21Go_any (w : World) (A : Option Addr) (n c : Nat) (T : Tr) (hr : Rd w A n (bools T.bits)) (hn : n ≤ 1000000) (A' : Option Addr) (n' c' : Nat) (p : List Int) (hr' : Rd w A' n' (ints p)) (hn' : n' ≤ 1000000) (hp : allIn p 0 1 = true) :
    Calls Try.prog 76 #[.slice A n c, .slice A' n' c'] w fun e w' => e = .returned (posRes (pos T p)) ∧ w = w' := by
  have HL : Hid (T.bits.length = n) := Lib.hid (by simpa using hr.1)
  have HL' : Hid (p.length = n') := Lib.hid (by simpa using hr'.1)
  have HP := Lib.hid (allIn_true.1 hp)
  clear hp
  go_enter Try.func76, Try.ntmps76
  go_wp2_with fail
  go_loopw [6, 7] (fun q i wr => ∃ (a k : Nat) (t : Tr) (r : List Bool), a ≤ n ∧ k ≤ n' ∧ q = .int .i64 a ∧ i = .int .i64 k ∧ Hid (T.bits.drop a = t.bits ++ r ∧ pos T p = (pos t (p.drop k)).map (a + ·)) ∧ wr = w) (fun _ i _ => n' - (intOf i).toNat)
  case atStart => exact ⟨0, 0, T, [], by omega, by omega, rfl, rfl, Lib.hid ⟨by simp, by simp⟩, rfl⟩
  case round =>
    obtain ⟨a, k, t, r, ha, hk, rfl, rfl, HG, rfl⟩ := hrel
    by_cases hlt : k < n'
    · obtain ⟨x, hx⟩ := get_some (xs := p) (k := k) (by rw [HL'.out]; exact hlt)
      obtain ⟨b', off', rfl, hbk', hcx'⟩ := hr'.at_ (ints_get hx)
      have hx01 : x = 0 ∨ x = 1 := by have := HP.out x (List.mem_of_getElem? hx); omega
      have hd := drop_get hx
      cases t with
      | nil =>
        have hg : T.bits[a]? = some false := by
          have h0 : (T.bits.drop a)[0]? = some false := by rw [HG.out.1]; rfl
          simpa using h0
        have han : a < n := by rw [← HL.out]; exact (List.getElem?_eq_some_iff.1 hg).1
        obtain ⟨b, off, rfl, hbk, hcx⟩ := hr.at_ (k := a) (u := .bool false) (by simp [hg])
        have HR : Hid (pos T p = none) := Lib.hid (by rw [HG.out.2, hd]; rfl)
        clear hg hx hd hx01
        go_wp2_with fail
        go_ret2
        exact ⟨by rw [HR.out]; rfl, rfl⟩
      | node h t =>
        have hg : T.bits[a]? = some true := by
          have h0 : (T.bits.drop a)[0]? = some true := by rw [HG.out.1]; rfl
          simpa using h0
        have han : a < n := by rw [← HL.out]; exact (List.getElem?_eq_some_iff.1 hg).1
        obtain ⟨b, off, rfl, hbk, hcx⟩ := hr.at_ (k := a) (u := .bool true) (by simp [hg])
        have hd1 : T.bits.drop (a + 1) = h.bits ++ (t.bits ++ r) := by
          have h1 := drop_get hg
          rw [HG.out.1] at h1
          simpa [Tr.bits] using h1.symm
        obtain ⟨he1, he2, he3⟩ := endAt_tree hd1 (by rw [HL.out]; omega)
        rw [HL.out] at he2
        have HD1 := Lib.hid hd1; have HE1 := Lib.hid he1; have HE3 := Lib.hid he3; have HDD := Lib.hid hd
        clear hg hx hd hd1 he1 he3
        rcases hx01 with rfl | rfl
        · go_wp2_with fail
          go_roundw
          case rel =>
            refine ⟨a + 1, k + 1, h, t.bits ++ r, by omega, by omega, by go_num, by go_num, Lib.hid ⟨HD1.out, ?_⟩, by trivial⟩
            rw [HG.out.2, HDD.out]
            simp only [pos, if_pos]
            cases pos h (p.drop (k + 1)) <;> simp; omega
          case measure => simp [intOf]; omega
        · go_wp2_with (go_at_call 61; go_must (refine (l21End_any _ _ _ _ _ hr (by omega) (a + 1) (by omega)).mono ?_; rw [HE1.out]; rintro e w' ⟨rfl, rfl⟩))
          go_roundw
          case rel =>
            refine ⟨a + 1 + h.nodes, k + 1, t, r, by omega, by omega, by go_num, by go_num, Lib.hid ⟨HE3.out, ?_⟩, by trivial⟩
            rw [HG.out.2, HDD.out]
            have n0 : ¬ ((1 : Int) = 0) := by omega
            simp only [pos, if_neg n0]
            cases pos t (p.drop (k + 1)) <;> simp; omega
          case measure => simp [intOf]; omega
    · have HR : Hid (pos T p = some a) := Lib.hid (by rw [HG.out.2, List.drop_of_length_le (by rw [HL'.out]; omega)]; cases t <;> simp [pos])
      go_wp2_with fail
      go_ret2
      exact ⟨by rw [HR.out]; rfl, rfl⟩
end Go.Proofs.Ytnfkmcphkecemaa
