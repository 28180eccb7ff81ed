/- The bits of a tree of pointers, by the closure that appends them. -/
import Derived.Test.YtilbgbibddjdcaaTreeQ
import Derived.Test.YtilbgbibddjdcaaMem2
import Derived.OneCell
namespace Go.Proofs.Ytilbgbibddjdcaa
open Go.RowKit

theorem own_blk_ne {w : World} {base e n B T : Nat} {v : Value} {vs : List Value} {cs : Array Value} (h : w.ownsRow base e 1 v n vs) (hB : w.heap[B]? = some (.cells cs T (0, 0))) (hT : T ≠ e) : v.ownBlock ≠ some B := by
  intro hv
  rcases h.2 with ⟨rfl, _⟩ | ⟨g, cap, cur, rfl, _, hg, _⟩
  · simp [Value.ownBlock] at hv
  · simp [Value.ownBlock] at hv
    subst hv
    rw [hg] at hB
    simp at hB
    exact hT hB.2.symm
theorem grown_blk {w w' : World} {B T : Nat} {row : Option Nat} {cs : Array Value} (hg : w.grownBy w' row) (hB : w.heap[B]? = some (.cells cs T (0, 0))) (hne : row ≠ some B) : w'.heap[B]? = some (.cells cs T (0, 0)) :=
  (hg.block B (lt_of_block hB) (fun e => hne e.symm)).trans hB

/-- The closure's state: the row so far in the variable Bo, the closure itself in Bv. -/
def LS (w : World) (base Bo Bv : Nat) (A : Option Addr) (n c : Nat) (bs : List Bool) : Prop :=
  w.heap[Bo]? = some (.cells #[.slice A n c] 22 (0, 0)) ∧ w.heap[Bv]? = some (.cells #[.func (.func 107) #[] #[.pointer (some ⟨Bo, 0, none⟩), .pointer (some ⟨Bv, 0, none⟩)]] 127 (0, 0)) ∧
  w.ownsRow base 4 1 (.slice A n c) n (bools bs) ∧ base ≤ Bo ∧ base ≤ w.heap.size
theorem LS.push {w w1 : World} {base Bo Bv n : Nat} {A : Option Addr} {c : Nat} {bs : List Bool} (h : LS w base Bo Bv A n c bs) {A1 : Option Addr} {c1 : Nat} {b : Bool}
    (hown : w1.ownsRow base 4 1 (.slice A1 (n + 1) c1) (n + 1) (bools bs ++ [.bool b])) (hg : w.grownBy w1 (Value.slice A n c).ownBlock) :
    w1.heap[Bo]? = some (.cells #[.slice A n c] 22 (0, 0)) ∧ LS (w1.setCell ⟨Bo, 0, none⟩ (.slice A1 (n + 1) c1)) base Bo Bv A1 (n + 1) c1 (bs ++ [b]) ∧ Below base w (w1.setCell ⟨Bo, 0, none⟩ (.slice A1 (n + 1) c1)) := by
  obtain ⟨h1, h2, h3, h4, h5⟩ := h
  have k1 := grown_blk hg h1 (own_blk_ne h3 h1 (by omega))
  have k2 := grown_blk hg h2 (own_blk_ne h3 h2 (by omega))
  refine ⟨k1, ⟨one_setCell k1, ?_, ?_, h4, ?_⟩, ?_⟩
  · have hne : Bv ≠ Bo := by
      rintro rfl
      rw [h1] at h2
      simp at h2
    rw [Below.heap_setCell _ _ _ _ hne]; exact k2
  · have := ownsRow_setCell_other hown (a := ⟨Bo, 0, none⟩) (own_blk_ne hown k1 (by omega)) (.slice A1 (n + 1) c1)
    simpa using this
  · simp; exact Nat.le_trans h5 hg.size
  · exact ((Below.refl base w).grown hg h5 (fun k hk => (h3.lt k hk).1)).setCell h4 _

set_option maxHeartbeats 1600000 in
theorem visit_any : ∀ (t : Tr) (w : World) (v : Value) (lo hi base Bo Bv : Nat) (A : Option Addr) (n c : Nat) (bs : List Bool), IsT w lo hi v t → hi ≤ base → LS w base Bo Bv A n c bs → n + t.nodes ≤ 1000000000 →
    Calls Try.prog 107 #[v, .pointer (some ⟨Bo, 0, none⟩), .pointer (some ⟨Bv, 0, none⟩)] w fun e w' => e = .returned (.tuple #[]) ∧ (∃ A' c', LS w' base Bo Bv A' (n + t.nodes) c' (bs ++ t.bits)) ∧ Below base w w' := by
  intro t
  induction t with
  | nil =>
    intro w v lo hi base Bo Bv A n c bs h hhi hs hn
    obtain rfl : v = .pointer none := h
    have cO := cell_of_one hs.1
    have hown := hs.2.2.1
    have hsz := hs.2.2.2.2
    have hlt := lt_of_block hs.1
    simp only [Tr.nodes] at hn
    go_enter Try.func107, Try.ntmps107
    go_wp2_with (at_builtin; go_must (refine wpList_app1g eltB rfl _ _ rfl w base _ n _ (by rfl) hown _ (by rfl) (by rfl) (by omega) (by omega) ?_; rintro A2 c2 w2 hown2 hb2 hg2; obtain ⟨k1, hs2, hbb⟩ := hs.push (b := false) hown2 hg2; have fO := free_of_one k1; have cO2 := cell_of_one k1; clear cO))
    go_end0
    exact ⟨rfl, ⟨A2, c2, hs2⟩, hbb⟩
  | node l r ihl ihr =>
    intro w v lo hi base Bo Bv A n c bs h hhi hs hn
    rcases h.ptr with ⟨_, h0⟩ | ⟨b, vh, vt, h', t', rfl, ht, hb1, hb2, c0, c1, _, hh, ht2⟩
    · cases h0
    cases ht
    obtain ⟨o1, rfl⟩ := hh.isPtr
    obtain ⟨o2, rfl⟩ := ht2.isPtr
    have HN : Hid ((Tr.node l r).nodes = 1 + l.nodes + r.nodes) := Lib.hid rfl
    have hln : n + 1 + l.nodes ≤ 1000000000 := by have := HN.out; omega
    have hrn : n + 1 + l.nodes + r.nodes ≤ 1000000000 := by have := HN.out; omega
    have cO := cell_of_one hs.1
    have hown := hs.2.2.1
    have hsz := hs.2.2.2.2
    have hlt := lt_of_block hs.1
    have HL := Lib.hid ihl; have HR := Lib.hid ihr
    have HH := Lib.hid hh; have HT2 := Lib.hid ht2
    clear ihl ihr h hn hh ht2
    go_enter Try.func107, Try.ntmps107
    go_wp2_with (at_builtin; go_must (refine wpList_app1g eltB rfl _ _ rfl w base _ n _ (by rfl) hown _ (by rfl) (by rfl) (by omega) (by omega) ?_; rintro A2 c2 w2 hown2 hb2' hg2; obtain ⟨k1, hs2, hbb⟩ := hs.push (b := true) hown2 hg2; have fO := free_of_one k1; have cO2 := cell_of_one k1; clear cO))
    clear fO cO2 k1 hown hown2 hb2' hg2 hs hlt
    have c0 := (hbb.cell (p := ⟨b, 0, none⟩) (Nat.lt_of_lt_of_le hb2 hhi)).trans c0
    have c1 := (hbb.cell (p := ⟨b, 1, none⟩) (Nat.lt_of_lt_of_le hb2 hhi)).trans c1
    have hh := HH.out.below hbb hhi
    have ht2 := HT2.out.below hbb hhi
    generalize w2.setCell ⟨Bo, 0, none⟩ (.slice A2 (n + 1) c2) = w3 at *
    have cV := cell_of_one hs2.2.1
    go_region_held3 (fun w' => w'.cell? ⟨Bv, 0, none⟩ = some (.func (.func 107) #[] #[.pointer (some ⟨Bo, 0, none⟩), .pointer (some ⟨Bv, 0, none⟩)]) ∧ w'.cell? ⟨b, 0, none⟩ = some (.pointer o1)) (exact ⟨cV, c0⟩) (first
      | (go_at_call 107
         go_must (refine (HL.out _ _ lo hi base Bo Bv A2 (n + 1) c2 _ (by first | exact hh.drew | exact hh) hhi (by exact hs2) hln).mono ?_
                  rintro e w4 ⟨rfl, ⟨A4, c4, hs4⟩, hb4⟩
                  (try replace hb4 := below_undrew hb4)
                  have c0 := (hb4.cell (p := ⟨b, 0, none⟩) (Nat.lt_of_lt_of_le hb2 hhi)).trans c0
                  have cV := cell_of_one hs4.2.1)))
    have hb34 := hbb.trans hb4
    have c1 := (hb4.cell (p := ⟨b, 1, none⟩) (Nat.lt_of_lt_of_le hb2 hhi)).trans c1
    have ht4 := ht2.below hb4 hhi
    clear hs2 hh ht2 c0 hbb hb4
    go_wp2_with fail
    go_region_held3 (fun w' => w'.cell? ⟨Bv, 0, none⟩ = some (.func (.func 107) #[] #[.pointer (some ⟨Bo, 0, none⟩), .pointer (some ⟨Bv, 0, none⟩)]) ∧ w'.cell? ⟨b, 1, none⟩ = some (.pointer o2)) (exact ⟨cV, c1⟩) (first
      | (go_at_call 107
         go_must (refine (HR.out _ _ lo hi base Bo Bv A4 (n + 1 + l.nodes) c4 _ (by first | exact ht4.drew | exact ht4) hhi (by exact hs4) hrn).mono ?_
                  rintro e w5 ⟨rfl, ⟨A5, c5, hs5⟩, hb5⟩
                  (try replace hb5 := below_undrew hb5)
                  have c1 := (hb5.cell (p := ⟨b, 1, none⟩) (Nat.lt_of_lt_of_le hb2 hhi)).trans c1
                  have cV := cell_of_one hs5.2.1)))
    go_wp2_with fail
    go_end0
    refine ⟨rfl, ⟨A5, c5, ?_⟩, hb34.trans hb5⟩
    rw [HN.out, show n + (1 + l.nodes + r.nodes) = n + 1 + l.nodes + r.nodes by omega]
    have e : bs ++ (Tr.node l r).bits = bs ++ [true] ++ l.bits ++ r.bits := by simp [Tr.bits]
    rw [e]
    exact hs5
end Go.Proofs.Ytilbgbibddjdcaa
