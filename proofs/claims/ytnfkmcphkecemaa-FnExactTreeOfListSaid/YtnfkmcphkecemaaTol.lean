/- TreeOfList: the program's function and the reference's give the same bits and code. -/
import Derived.Test.YtnfkmcphkecemaaRepl4
import Derived.Test.YtnfkmcphkecemaaLawM
namespace Go.Proofs.Ytnfkmcphkecemaa
open Go.RowKit

def lst : List Tr → Tr
  | [] => .nil
  | t :: r => .node t (lst r)
theorem lst_bits : ∀ ts : List Tr, (lst ts).bits = ts.flatMap (fun t => true :: t.bits) ++ [false]
  | [] => rfl
  | t :: r => by simp [lst, Tr.bits, lst_bits r]
theorem lst_nodes {N : Nat} : ∀ ts : List Tr, (∀ t ∈ ts, t.nodes ≤ N) → (lst ts).nodes ≤ ts.length * (N + 1) + 1
  | [], _ => by simp [lst, Tr.nodes]
  | t :: r, h => by
    have h1 := h t (by simp)
    have h2 := lst_nodes r fun u hu => h u (by simp [hu])
    simp only [lst, Tr.nodes, List.length_cons]
    rw [Nat.add_mul]
    omega
def tolNum (xss : List (List Bool)) : List Bool × Int := if allTr xss = true then (if xss.length ≤ 100 then fitT (lst (xss.map trOf)) else ([], 2)) else ([], 1)
theorem tolNum_len (xss : List (List Bool)) : (tolNum xss).1.length ≤ 1000000 := by
  unfold tolNum
  split
  · split
    · exact fitT_len _
    · simp
  · simp
theorem tol_bad {xss : List (List Bool)} (h : allTr xss = false) : tolNum xss = ([], 1) := by simp [tolNum, h]
theorem tol_range {xss : List (List Bool)} (h : allTr xss = true) (h2 : ¬ xss.length ≤ 100) : tolNum xss = ([], 2) := by simp only [tolNum, if_pos h, if_neg h2]
theorem tol_ok {ts : List Tr} (h : allTr (ts.map Tr.bits) = true) (h2 : ts.length ≤ 100) : tolNum (ts.map Tr.bits) = fitT (lst ts) := by
  have e : (ts.map Tr.bits).map trOf = ts := by
    rw [List.map_map]
    conv => rhs; rw [← List.map_id ts]
    apply List.map_congr_left
    intro t _
    exact trOf_bits t
  simp only [tolNum, if_pos h, List.length_map, if_pos h2, e]
theorem allTr_trees : ∀ {xss : List (List Bool)}, allTr xss = true → ∃ ts : List Tr, xss = ts.map Tr.bits ∧ ∀ t ∈ ts, t.nodes ≤ 2000
  | [], _ => ⟨[], rfl, by simp⟩
  | x :: r, h => by
    simp only [allTr, List.all_cons, Bool.and_eq_true] at h
    obtain ⟨t, rfl, ht⟩ := isTr_tree h.1
    obtain ⟨ts, rfl, hts⟩ := allTr_trees (xss := r) h.2
    refine ⟨t :: ts, rfl, fun u hu => ?_⟩
    rcases List.mem_cons.1 hu with e | hu
    · rw [e]; exact ht
    · exact hts u hu

theorem Try.infoP : (Try.prog.info? 61).map (fun i => (i.zero, i.size, i.bytes)) = some (some (.pointer none), 1, 8) := by kernel_rfl
theorem eltP : Elt Try.prog 64 61 (.pointer none) := Elt.mk_ Try.underlying64 Try.infoP rfl (by decide)

/-- Pointers that stand for trees. -/
def AreT (w : World) (lo hi : Nat) (us : List Value) (ts : List Tr) : Prop := us.length = ts.length ∧ ∀ (i : Nat) (u : Value) (t : Tr), us[i]? = some u → ts[i]? = some t → IsT w lo hi u t
theorem AreT.keep {w w' : World} {lo hi hi' : Nat} {us : List Value} {ts : List Tr} (h : AreT w lo hi us ts) (hk : ∀ b, lo ≤ b → b < hi → w'.heap[b]? = w.heap[b]?) (hh : hi ≤ hi') : AreT w' lo hi' us ts :=
  ⟨h.1, fun i u t hu ht => ((h.2 i u t hu ht).keep hk).wide (Nat.le_refl _) hh⟩
theorem AreT.below {w w' : World} {lo hi hi' B : Nat} {us : List Value} {ts : List Tr} (h : AreT w lo hi us ts) (hb : Below B w w') (hB : hi ≤ B) (hh : hi ≤ hi') : AreT w' lo hi' us ts := h.keep (fun b _ h2 => hb.block b (by omega)) hh
theorem AreT.snoc {w : World} {lo hi : Nat} {us : List Value} {ts : List Tr} {u : Value} {t : Tr} (h : AreT w lo hi us ts) (ht : IsT w lo hi u t) : AreT w lo hi (us ++ [u]) (ts ++ [t]) := by
  refine ⟨by simp [h.1], fun i v s hv hs => ?_⟩
  have hl := h.1
  by_cases hi' : i < us.length
  · rw [List.getElem?_append_left hi'] at hv
    rw [List.getElem?_append_left (by omega)] at hs
    exact h.2 i v s hv hs
  · rw [List.getElem?_append_right (by omega)] at hv hs
    have hi0 : i - us.length = 0 := by
      rcases Nat.eq_zero_or_pos (i - us.length) with h | h
      · exact h
      · rw [List.getElem?_eq_none (by simp; omega)] at hv; cases hv
    rw [hi0] at hv
    rw [show i - ts.length = 0 by omega] at hs
    simp at hv hs
    subst hv hs
    exact ht
theorem lst_drop {ts : List Tr} {k : Nat} {t : Tr} (h : ts[k]? = some t) : lst (ts.drop k) = .node t (lst (ts.drop (k + 1))) := by rw [drop_get h]; rfl

set_option maxHeartbeats 1600000 in
theorem treeOfList_any (w : World) (lo : Nat) (A : Option Addr) (n c : Nat) (us : List Value) (ts : List Tr) (hr : Rd w A n us) (ha : AreT w lo w.heap.size us ts) (hlo : lo ≤ w.heap.size) (hn : n ≤ 1000) (hts : ∀ t ∈ ts, t.nodes ≤ 2000) :
    Calls Try.prog 49 #[.slice A n c] w (RetTr w lo (lst ts)) := by
  have HL : Hid (ts.length = n) := Lib.hid (by rw [← ha.1]; exact hr.1)
  have HLU : Hid (us.length = n) := Lib.hid hr.1
  have HTS := Lib.hid hts
  clear hts
  go_enter Try.func49, Try.ntmps49
  go_wp2_with fail
  go_loopw [3, 4] (fun v i wr => ∃ j : Nat, i = .int .i64 ((j : Int) - 1) ∧ j ≤ n ∧ IsT wr lo wr.heap.size v (lst (ts.drop j)) ∧ Below w.heap.size w wr) (fun _ i _ => (intOf i + 1).toNat)
  case atStart => exact ⟨n, rfl, Nat.le_refl _, by rw [List.drop_of_length_le (by rw [HL.out]; omega)]; rfl, Below.refl _ _⟩
  case round =>
    obtain ⟨j, rfl, hj, hi, hb⟩ := hrel
    obtain ⟨o, rfl⟩ := hi.isPtr
    rcases Nat.eq_zero_or_pos j with h0 | h0
    · subst h0
      rw [List.drop_zero] at hi
      go_wp2_with fail
      go_ret
      exact ⟨_, rfl, hi, hb⟩
    · obtain ⟨k, rfl⟩ : ∃ k, j = k + 1 := ⟨j - 1, by omega⟩
      have ek : (((k + 1 : Nat) : Int) - 1) = (k : Int) := by omega
      rw [ek]
      clear ek
      obtain ⟨t, ht⟩ := get_some (xs := ts) (k := k) (by rw [HL.out]; omega)
      obtain ⟨u, hu⟩ := get_some (xs := us) (k := k) (by rw [HLU.out]; omega)
      have hit := ha.2 k u t hu ht
      obtain ⟨ou, rfl⟩ := hit.isPtr
      obtain ⟨b, off, rfl, hbs, hc⟩ := hr.at_ hu
      have hc1 := (hb.cell (p := ⟨b, off + k, none⟩) hbs).trans hc
      have hit1 := (hit.below hb (Nat.le_refl _)).wide (Nat.le_refl _) hb.size
      have HD := Lib.hid (lst_drop ht)
      have htn := HTS.out t (List.mem_of_getElem? ht)
      have HLN := Lib.hid (lst_nodes (N := 2000) (ts.drop (k + 1)) fun x hx => HTS.out x (List.mem_of_mem_drop hx))
      have hln : (lst (ts.drop (k + 1))).nodes ≤ 1000000000 := by
        have h1 := HLN.out
        have h2 : (ts.drop (k + 1)).length ≤ 1000 := by simp; rw [HL.out]; omega
        have h3 := Nat.mul_le_mul_right (2000 + 1) h2
        omega
      have hkn : k < n := by omega
      clear hc ht hu hit
      go_wp2_with fail
      refine (pair_any _ lo _ _ _ _ hit1 hi (Nat.le_trans hlo hb.size) (by omega) hln).mono ?_
      rintro e w4 ⟨v4, rfl, h4, hb4⟩
      obtain ⟨o4, rfl⟩ := h4.isPtr
      go_wp2_with fail
      go_roundw
      case rel => exact ⟨k, rfl, by omega, by rw [HD.out]; exact h4, hb.trans (hb4.mono hb.size)⟩
      case measure => simp only [intOf]; omega
end Go.Proofs.Ytnfkmcphkecemaa
