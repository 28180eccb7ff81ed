/- Trees of pointers in memory: what a pointer stands for; the number of nodes, a new pair, the mirror. -/
import Derived.Test.YtilbgbibddjdcaaTreeM
import Derived.Test.YtilbgbibddjdcaaRet
namespace Go.Proofs.Ytilbgbibddjdcaa
open Go.RowKit

/-- The pointer v stands for the tree t; its nodes lie in blocks from lo up to hi. -/
def IsT (w : World) (lo hi : Nat) : Value → Tr → Prop
  | v, .nil => v = .pointer none
  | v, .node h t => ∃ b vh vt, v = .pointer (some ⟨b, 0, none⟩) ∧ lo ≤ b ∧ b < hi ∧ w.heap[b]? = some (.cells #[vh, vt, .int .i64 (Tr.node h t).nodes] 123) ∧ IsT w lo hi vh h ∧ IsT w lo hi vt t
theorem IsT.keep {w w' : World} {lo hi : Nat} (hk : ∀ b, lo ≤ b → b < hi → w'.heap[b]? = w.heap[b]?) : ∀ {t : Tr} {v : Value}, IsT w lo hi v t → IsT w' lo hi v t
  | .nil, _, h => h
  | .node _ _, _, ⟨b, vh, vt, e, h1, h2, h3, h4, h5⟩ => ⟨b, vh, vt, e, h1, h2, (hk b h1 h2).trans h3, h4.keep hk, h5.keep hk⟩
theorem IsT.wide {w : World} {lo hi lo' hi' : Nat} (hl : lo' ≤ lo) (hh : hi ≤ hi') : ∀ {t : Tr} {v : Value}, IsT w lo hi v t → IsT w lo' hi' v t
  | .nil, _, h => h
  | .node _ _, _, ⟨b, vh, vt, e, h1, h2, h3, h4, h5⟩ => ⟨b, vh, vt, e, by omega, by omega, h3, h4.wide hl hh, h5.wide hl hh⟩
theorem IsT.below {w w' : World} {lo hi B : Nat} {t : Tr} {v : Value} (h : IsT w lo hi v t) (hb : Below B w w') (hB : hi ≤ B) : IsT w' lo hi v t := h.keep fun b _ h2 => hb.block b (by omega)
theorem IsT.drew {w : World} {lo hi : Nat} {t : Tr} {v : Value} (h : IsT w lo hi v t) : IsT w.drew lo hi v t := IsT.keep (w := w) (w' := w.drew) (fun _ _ _ => rfl) h
/-- A pointer stands for nil, or for a node whose three cells lie in memory. -/
theorem IsT.ptr {w : World} {lo hi : Nat} {v : Value} {t : Tr} (h : IsT w lo hi v t) : (v = .pointer none ∧ t = .nil) ∨ ∃ b vh vt h' t', v = .pointer (some ⟨b, 0, none⟩) ∧ t = .node h' t' ∧ lo ≤ b ∧ b < hi ∧
    w.cell? ⟨b, 0, none⟩ = some vh ∧ w.cell? ⟨b, 1, none⟩ = some vt ∧ w.cell? ⟨b, 2, none⟩ = some (.int .i64 t.nodes) ∧ IsT w lo hi vh h' ∧ IsT w lo hi vt t' := by
  cases t with
  | nil => exact .inl ⟨h, rfl⟩
  | node h' t' =>
    obtain ⟨b, vh, vt, e, h1, h2, h3, h4, h5⟩ := h
    refine .inr ⟨b, vh, vt, h', t', e, rfl, h1, h2, ?_, ?_, ?_, h4, h5⟩
    · rw [cell_of_row w b 0 _ _ _ h3]; rfl
    · rw [cell_of_row w b 1 _ _ _ h3]; rfl
    · rw [cell_of_row w b 2 _ _ _ h3]; rfl

theorem IsT.isPtr {w : World} {lo hi : Nat} {v : Value} {t : Tr} (h : IsT w lo hi v t) : ∃ o, v = .pointer o := by
  rcases h.ptr with ⟨rfl, _⟩ | ⟨b, vh, vt, h', t', rfl, _⟩
  · exact ⟨_, rfl⟩
  · exact ⟨_, rfl⟩

set_option maxHeartbeats 400000 in
theorem nodesOf_any (w : World) (lo hi : Nat) (v : Value) (t : Tr) (h : IsT w lo hi v t) : Calls Try.prog 106 #[v] w fun e w' => e = .returned (.int .i64 t.nodes) ∧ w = w' := by
  rcases h.ptr with ⟨rfl, rfl⟩ | ⟨b, vh, vt, h', t', rfl, rfl, _, _, c0, c1, c2, _, _⟩
  · go_enter Try.func106, Try.ntmps106
    go_wp2_with fail
    go_ret
    exact ⟨rfl, rfl⟩
  · generalize (Tr.node h' t').nodes = N at c2
    go_enter Try.func106, Try.ntmps106
    go_wp2_with fail
    go_ret
    exact ⟨rfl, rfl⟩

/-- What a call that returns a tree leaves. -/
def RetT (w : World) (lo hi : Nat) (t : Tr) (en : Ending) (w' : World) : Prop := ∃ v, en = .returned v ∧ IsT w' lo (max hi w'.heap.size) v t ∧ Below w.heap.size w w'

set_option maxHeartbeats 400000 in
theorem pair_any (w : World) (lo : Nat) (v1 v2 : Value) (t1 t2 : Tr) (h1 : IsT w lo w.heap.size v1 t1) (h2 : IsT w lo w.heap.size v2 t2) (hlo : lo ≤ w.heap.size) (hn1 : t1.nodes ≤ 1000000000) (hn2 : t2.nodes ≤ 1000000000) :
    Calls Try.prog 105 #[v1, v2] w fun e w' => ∃ v, e = .returned v ∧ IsT w' lo w'.heap.size v (.node t1 t2) ∧ Below w.heap.size w w' := by
  obtain ⟨o1, rfl⟩ := h1.isPtr
  obtain ⟨o2, rfl⟩ := h2.isPtr
  have HN : Hid ((Tr.node t1 t2).nodes = 1 + t1.nodes + t2.nodes) := Lib.hid rfl
  have HI : Hid (IsT (w.alloc (.cells #[.pointer o1, .pointer o2, .int .i64 (1 + (t1.nodes : Int) + (t2.nodes : Int))] 123)) lo (w.alloc (.cells #[.pointer o1, .pointer o2, .int .i64 (1 + (t1.nodes : Int) + (t2.nodes : Int))] 123)).heap.size (.pointer (some ⟨w.heap.size, 0, none⟩)) (.node t1 t2)) := Lib.hid (by
    refine ⟨w.heap.size, .pointer o1, .pointer o2, rfl, hlo, by simp, ?_, ?_, ?_⟩
    · rw [heap_alloc_new]
      have : (((Tr.node t1 t2).nodes : Nat) : Int) = 1 + (t1.nodes : Int) + (t2.nodes : Int) := by rw [HN.out]; omega
      rw [this]
    · exact (h1.below (below_new w _) (Nat.le_refl _)).wide (Nat.le_refl _) (by simp)
    · exact (h2.below (below_new w _) (Nat.le_refl _)).wide (Nat.le_refl _) (by simp))
  generalize hg1 : t1.nodes = n1 at *
  generalize hg2 : t2.nodes = n2 at *
  have HG1 := Lib.hid hg1; have HG2 := Lib.hid hg2; clear hg1 hg2
  go_enter Try.func105, Try.ntmps105
  go_wp2_with fail
  refine (nodesOf_any _ lo _ _ _ h1).mono ?_
  rintro e w' ⟨rfl, rfl⟩
  rw [HG1.out]
  go_wp2_with fail
  refine (nodesOf_any _ lo _ _ _ h2).mono ?_
  rintro e w' ⟨rfl, rfl⟩
  rw [HG2.out]
  go_wp2_with fail
  go_ret
  exact ⟨_, rfl, HI.out, below_new _ _⟩
end Go.Proofs.Ytilbgbibddjdcaa
