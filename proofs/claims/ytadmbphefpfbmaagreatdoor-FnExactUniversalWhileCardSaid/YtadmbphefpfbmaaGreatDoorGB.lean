/- Texts in one file: TreeM, TreeP, TreeQ, TreeR, TreeS, TreeU, TreeV, TreeL. -/
import Derived.Test.YtadmbphefpfbmaaGreatDoorGA
import Derived.OneCell
import Derived.Laws.EntriesVeiled
import Derived.Deep.LoopGhost
/- Trees in plain Lean: their bits, the scan that tells whether bits are a tree, the forest of a suffix. -/
namespace Go.Proofs.YtadmbphefpfbmaaGreatDoor
open Go.RowKit

inductive Tr where
  | nil
  | node (h t : Tr)
def Tr.nodes : Tr → Nat
  | .nil => 1
  | .node h t => 1 + h.nodes + t.nodes
def Tr.bits : Tr → List Bool
  | .nil => [false]
  | .node h t => true :: (h.bits ++ t.bits)
theorem Tr.bits_len : ∀ t : Tr, t.bits.length = t.nodes
  | .nil => rfl
  | .node h t => by simp only [Tr.bits, Tr.nodes, List.length_cons, List.length_append, h.bits_len, t.bits_len]; omega
theorem Tr.nodes_pos : ∀ t : Tr, 1 ≤ t.nodes
  | .nil => Nat.le_refl _
  | .node h t => by simp only [Tr.nodes]; omega

/-- What is left behind n trees. -/
def scan : List Bool → Nat → Option (List Bool)
  | r, 0 => some r
  | [], _ + 1 => none
  | b :: r, n + 1 => scan r (if b then n + 2 else n)
theorem scan_bits : ∀ (t : Tr) (r : List Bool) (n : Nat), scan (t.bits ++ r) (n + 1) = scan r n
  | .nil, r, n => by cases n <;> simp [Tr.bits, scan]
  | .node h t, r, n => by
    have e : (Tr.node h t).bits ++ r = true :: (h.bits ++ (t.bits ++ r)) := by simp [Tr.bits]
    rw [e]
    show scan (h.bits ++ (t.bits ++ r)) (n + 1 + 1) = _
    rw [scan_bits h, scan_bits t]
/-- The trees of a suffix, from the right. -/
def forest : List Bool → List Tr
  | [] => []
  | false :: r => .nil :: forest r
  | true :: r => match forest r with
    | h :: t :: rest => .node h t :: rest
    | ts => ts
theorem forest_nil : forest [] = [] := rfl
theorem forest_false (r : List Bool) : forest (false :: r) = .nil :: forest r := rfl
theorem forest_true {r : List Bool} {h t : Tr} {rest : List Tr} (e : forest r = h :: t :: rest) : forest (true :: r) = .node h t :: rest := by simp [forest, e]
theorem scan_forest : ∀ (bs : List Bool) (n : Nat), scan bs n = some [] → (forest bs).length = n ∧ (forest bs).flatMap Tr.bits = bs
  | [], 0, _ => by simp [forest]
  | [], n + 1, h => by simp [scan] at h
  | b :: r, 0, h => by simp [scan] at h
  | false :: r, n + 1, h => by
    obtain ⟨h1, h2⟩ := scan_forest r n h
    rw [forest_false]
    exact ⟨by simp [h1], by simp [h2, Tr.bits]⟩
  | true :: r, n + 1, h => by
    obtain ⟨h1, h2⟩ := scan_forest r (n + 2) h
    match hf : forest r, h1, h2 with
    | x :: y :: rest, h1, h2 =>
      rw [forest_true hf]
      simp only [List.length_cons] at h1
      refine ⟨by simp only [List.length_cons]; omega, ?_⟩
      rw [← h2]
      simp [Tr.bits]
/-- The scan's count at each place. -/
def needAt (bs : List Bool) : Nat → Nat
  | 0 => 1
  | k + 1 => if bs[k]? = some true then needAt bs k + 1 else needAt bs k - 1
theorem need_scan (bs : List Bool) (h : scan bs 1 = some []) : ∀ k, k ≤ bs.length → scan (bs.drop k) (needAt bs k) = some []
  | 0, _ => by simpa [needAt] using h
  | k + 1, hk => by
    have ih := need_scan bs h k (by omega)
    obtain ⟨b, hb⟩ : ∃ b, bs[k]? = some b := ⟨bs[k], by simp⟩
    have hd : bs.drop k = b :: bs.drop (k + 1) := by
      rw [List.drop_eq_getElem_cons (by omega)]
      rw [List.getElem?_eq_getElem (by omega)] at hb
      injection hb with hb
      rw [hb]
    rw [hd] at ih
    cases hn : needAt bs k with
    | zero => rw [hn] at ih; simp [scan] at ih
    | succ m =>
      rw [hn] at ih
      simp only [scan] at ih
      simp only [needAt, hb, hn]
      cases b
      · simpa using ih
      · simpa using ih
def isTr (bs : List Bool) : Bool := decide (bs.length ≤ 2000) && (scan bs 1 == some [])
theorem isTr_tree {bs : List Bool} (h : isTr bs = true) : ∃ t : Tr, bs = t.bits ∧ t.nodes ≤ 2000 := by
  simp only [isTr, Bool.and_eq_true, decide_eq_true_eq, beq_iff_eq] at h
  obtain ⟨h1, h2⟩ := scan_forest bs 1 h.2
  match hf : forest bs, h1, h2 with
  | [t], _, h2 =>
    have e : bs = t.bits := by rw [← h2]; simp
    exact ⟨t, e, by rw [← t.bits_len, ← e]; exact h.1⟩
theorem isTr_bits {t : Tr} (h : t.nodes ≤ 2000) : isTr t.bits = true := by
  have e := scan_bits t [] 0
  simp only [List.append_nil] at e
  simp only [isTr, Bool.and_eq_true, decide_eq_true_eq, beq_iff_eq]
  exact ⟨by rw [t.bits_len]; exact h, by rw [e]; rfl⟩
theorem scan_whole (t : Tr) : scan t.bits 1 = some [] := by
  have e := scan_bits t [] 0
  simp only [List.append_nil] at e
  rw [e]; rfl
theorem forest_bits (t : Tr) : forest t.bits = [t] := by
  have key : ∀ (t : Tr) (r : List Bool), forest (t.bits ++ r) = t :: forest r := by
    intro t
    induction t with
    | nil => intro r; rfl
    | node h t ih1 ih2 =>
      intro r
      have e : (Tr.node h t).bits ++ r = true :: (h.bits ++ (t.bits ++ r)) := by simp [Tr.bits]
      rw [e]
      exact forest_true (by rw [ih1, ih2])
  have := key t []
  simpa [forest] using this
theorem bits_inj {a b : Tr} (h : a.bits = b.bits) : a = b := by
  have := forest_bits a
  rw [h, forest_bits b] at this
  simpa using this.symm
/-- A tree mirrored. -/
def Tr.mirror : Tr → Tr
  | .nil => .nil
  | .node h t => .node t.mirror h.mirror
theorem Tr.mirror_nodes : ∀ t : Tr, t.mirror.nodes = t.nodes
  | .nil => rfl
  | .node h t => by simp only [Tr.mirror, Tr.nodes, h.mirror_nodes, t.mirror_nodes]; omega
end Go.Proofs.YtadmbphefpfbmaaGreatDoor
/- Trees of pointers in memory: what a pointer stands for; the number of nodes, a new pair, the mirror. -/
namespace Go.Proofs.YtadmbphefpfbmaaGreatDoor
open Go.RowKit

/-- The pointer v stands for the tree t; its nodes lie in blocks from lo up to hi. -/
def IsT (w : World) (lo hi : Nat) : Value → Tr → Prop
  | v, .nil => v = .pointer none
  | v, .node h t => ∃ b vh vt, v = .pointer (some ⟨b, 0, none⟩) ∧ lo ≤ b ∧ b < hi ∧ w.heap[b]? = some (.cells #[vh, vt, .int .i64 (Tr.node h t).nodes] 141) ∧ IsT w lo hi vh h ∧ IsT w lo hi vt t
theorem IsT.keep {w w' : World} {lo hi : Nat} (hk : ∀ b, lo ≤ b → b < hi → w'.heap[b]? = w.heap[b]?) : ∀ {t : Tr} {v : Value}, IsT w lo hi v t → IsT w' lo hi v t
  | .nil, _, h => h
  | .node _ _, _, ⟨b, vh, vt, e, h1, h2, h3, h4, h5⟩ => ⟨b, vh, vt, e, h1, h2, (hk b h1 h2).trans h3, h4.keep hk, h5.keep hk⟩
theorem IsT.wide {w : World} {lo hi lo' hi' : Nat} (hl : lo' ≤ lo) (hh : hi ≤ hi') : ∀ {t : Tr} {v : Value}, IsT w lo hi v t → IsT w lo' hi' v t
  | .nil, _, h => h
  | .node _ _, _, ⟨b, vh, vt, e, h1, h2, h3, h4, h5⟩ => ⟨b, vh, vt, e, by omega, by omega, h3, h4.wide hl hh, h5.wide hl hh⟩
theorem IsT.below {w w' : World} {lo hi B : Nat} {t : Tr} {v : Value} (h : IsT w lo hi v t) (hb : Below B w w') (hB : hi ≤ B) : IsT w' lo hi v t := h.keep fun b _ h2 => hb.block b (by omega)
theorem IsT.drew {w : World} {lo hi : Nat} {t : Tr} {v : Value} (h : IsT w lo hi v t) : IsT w.drew lo hi v t := IsT.keep (w := w) (w' := w.drew) (fun _ _ _ => rfl) h
/-- A pointer stands for nil, or for a node whose three cells lie in memory. -/
theorem IsT.ptr {w : World} {lo hi : Nat} {v : Value} {t : Tr} (h : IsT w lo hi v t) : (v = .pointer none ∧ t = .nil) ∨ ∃ b vh vt h' t', v = .pointer (some ⟨b, 0, none⟩) ∧ t = .node h' t' ∧ lo ≤ b ∧ b < hi ∧
    w.cell? ⟨b, 0, none⟩ = some vh ∧ w.cell? ⟨b, 1, none⟩ = some vt ∧ w.cell? ⟨b, 2, none⟩ = some (.int .i64 t.nodes) ∧ IsT w lo hi vh h' ∧ IsT w lo hi vt t' := by
  cases t with
  | nil => exact .inl ⟨h, rfl⟩
  | node h' t' =>
    obtain ⟨b, vh, vt, e, h1, h2, h3, h4, h5⟩ := h
    refine .inr ⟨b, vh, vt, h', t', e, rfl, h1, h2, ?_, ?_, ?_, h4, h5⟩
    · rw [cell_of_row w b 0 _ _ _ h3]; rfl
    · rw [cell_of_row w b 1 _ _ _ h3]; rfl
    · rw [cell_of_row w b 2 _ _ _ h3]; rfl

theorem IsT.isPtr {w : World} {lo hi : Nat} {v : Value} {t : Tr} (h : IsT w lo hi v t) : ∃ o, v = .pointer o := by
  rcases h.ptr with ⟨rfl, _⟩ | ⟨b, vh, vt, h', t', rfl, _⟩
  · exact ⟨_, rfl⟩
  · exact ⟨_, rfl⟩

set_option maxHeartbeats 400000 in
theorem nodesOf_any (w : World) (lo hi : Nat) (v : Value) (t : Tr) (h : IsT w lo hi v t) : Calls Tryz.prog 95 #[v] w fun e w' => e = .returned (.int .i64 t.nodes) ∧ w = w' := by
  rcases h.ptr with ⟨rfl, rfl⟩ | ⟨b, vh, vt, h', t', rfl, rfl, _, _, c0, c1, c2, _, _⟩
  · go_enter Tryz.func95, Tryz.ntmps95
    go_wp2_with fail
    go_ret
    exact ⟨rfl, rfl⟩
  · generalize (Tr.node h' t').nodes = N at c2
    go_enter Tryz.func95, Tryz.ntmps95
    go_wp2_with fail
    go_ret
    exact ⟨rfl, rfl⟩

/-- What a call that returns a tree leaves. -/
def RetT (w : World) (lo hi : Nat) (t : Tr) (en : Ending) (w' : World) : Prop := ∃ v, en = .returned v ∧ IsT w' lo (max hi w'.heap.size) v t ∧ Below w.heap.size w w'

set_option maxHeartbeats 400000 in
theorem pair_any (w : World) (lo : Nat) (v1 v2 : Value) (t1 t2 : Tr) (h1 : IsT w lo w.heap.size v1 t1) (h2 : IsT w lo w.heap.size v2 t2) (hlo : lo ≤ w.heap.size) (hn1 : t1.nodes ≤ 1000000000) (hn2 : t2.nodes ≤ 1000000000) :
    Calls Tryz.prog 60 #[v1, v2] w fun e w' => ∃ v, e = .returned v ∧ IsT w' lo w'.heap.size v (.node t1 t2) ∧ Below w.heap.size w w' := by
  obtain ⟨o1, rfl⟩ := h1.isPtr
  obtain ⟨o2, rfl⟩ := h2.isPtr
  have HN : Hid ((Tr.node t1 t2).nodes = 1 + t1.nodes + t2.nodes) := Lib.hid rfl
  have HI : Hid (IsT (w.alloc (.cells #[.pointer o1, .pointer o2, .int .i64 (1 + (t1.nodes : Int) + (t2.nodes : Int))] 141)) lo (w.alloc (.cells #[.pointer o1, .pointer o2, .int .i64 (1 + (t1.nodes : Int) + (t2.nodes : Int))] 141)).heap.size (.pointer (some ⟨w.heap.size, 0, none⟩)) (.node t1 t2)) := Lib.hid (by
    refine ⟨w.heap.size, .pointer o1, .pointer o2, rfl, hlo, by simp, ?_, ?_, ?_⟩
    · rw [heap_alloc_new]
      have : (((Tr.node t1 t2).nodes : Nat) : Int) = 1 + (t1.nodes : Int) + (t2.nodes : Int) := by rw [HN.out]; omega
      rw [this]
    · exact (h1.below (below_new w _) (Nat.le_refl _)).wide (Nat.le_refl _) (by simp)
    · exact (h2.below (below_new w _) (Nat.le_refl _)).wide (Nat.le_refl _) (by simp))
  generalize hg1 : t1.nodes = n1 at *
  generalize hg2 : t2.nodes = n2 at *
  have HG1 := Lib.hid hg1; have HG2 := Lib.hid hg2; clear hg1 hg2
  go_enter Tryz.func60, Tryz.ntmps60
  go_wp2_with fail
  refine (nodesOf_any _ lo _ _ _ h1).mono ?_
  rintro e w' ⟨rfl, rfl⟩
  rw [HG1.out]
  go_wp2_with fail
  refine (nodesOf_any _ lo _ _ _ h2).mono ?_
  rintro e w' ⟨rfl, rfl⟩
  rw [HG2.out]
  go_wp2_with fail
  go_ret
  exact ⟨_, rfl, HI.out, below_new _ _⟩
end Go.Proofs.YtadmbphefpfbmaaGreatDoor
/- The mirror of a tree of pointers; the bits of a tree of pointers. -/
namespace Go.Proofs.YtadmbphefpfbmaaGreatDoor
open Go.RowKit

def RetTr (w : World) (lo : Nat) (t : Tr) (en : Ending) (w' : World) : Prop := ∃ v, en = .returned v ∧ IsT w' lo w'.heap.size v t ∧ Below w.heap.size w w'

theorem tr_half {h t : Tr} {N : Nat} (hn : (Tr.node h t).nodes ≤ N) : h.nodes ≤ N ∧ t.nodes ≤ N := by
  simp only [Tr.nodes] at hn; exact ⟨by omega, by omega⟩

end Go.Proofs.YtadmbphefpfbmaaGreatDoor
/- The bits of a tree of pointers, by the closure that appends them. -/
namespace Go.Proofs.YtadmbphefpfbmaaGreatDoor
open Go.RowKit

theorem own_blk_ne {w : World} {base e n B T : Nat} {v : Value} {vs : List Value} {cs : Array Value} (h : w.ownsRow base e 1 v n vs) (hB : w.heap[B]? = some (.cells cs T (0, 0))) (hT : T ≠ e) : v.ownBlock ≠ some B := by
  intro hv
  rcases h.2 with ⟨rfl, _⟩ | ⟨g, cap, cur, rfl, _, hg, _⟩
  · simp [Value.ownBlock] at hv
  · simp [Value.ownBlock] at hv
    subst hv
    rw [hg] at hB
    simp at hB
    exact hT hB.2.symm
theorem grown_blk {w w' : World} {B T : Nat} {row : Option Nat} {cs : Array Value} (hg : w.grownBy w' row) (hB : w.heap[B]? = some (.cells cs T (0, 0))) (hne : row ≠ some B) : w'.heap[B]? = some (.cells cs T (0, 0)) :=
  (hg.block B (lt_of_block hB) (fun e => hne e.symm)).trans hB

/-- The closure's state: the row so far in the variable Bo, the closure itself in Bv. -/
def LS (w : World) (base Bo Bv : Nat) (A : Option Addr) (n c : Nat) (bs : List Bool) : Prop :=
  w.heap[Bo]? = some (.cells #[.slice A n c] 22 (0, 0)) ∧ w.heap[Bv]? = some (.cells #[.func (.func 147) #[] #[.pointer (some ⟨Bo, 0, none⟩), .pointer (some ⟨Bv, 0, none⟩)]] 182 (0, 0)) ∧
  w.ownsRow base 4 1 (.slice A n c) n (bools bs) ∧ base ≤ Bo ∧ base ≤ w.heap.size
theorem LS.push {w w1 : World} {base Bo Bv n : Nat} {A : Option Addr} {c : Nat} {bs : List Bool} (h : LS w base Bo Bv A n c bs) {A1 : Option Addr} {c1 : Nat} {b : Bool}
    (hown : w1.ownsRow base 4 1 (.slice A1 (n + 1) c1) (n + 1) (bools bs ++ [.bool b])) (hg : w.grownBy w1 (Value.slice A n c).ownBlock) :
    w1.heap[Bo]? = some (.cells #[.slice A n c] 22 (0, 0)) ∧ LS (w1.setCell ⟨Bo, 0, none⟩ (.slice A1 (n + 1) c1)) base Bo Bv A1 (n + 1) c1 (bs ++ [b]) ∧ Below base w (w1.setCell ⟨Bo, 0, none⟩ (.slice A1 (n + 1) c1)) := by
  obtain ⟨h1, h2, h3, h4, h5⟩ := h
  have k1 := grown_blk hg h1 (own_blk_ne h3 h1 (by omega))
  have k2 := grown_blk hg h2 (own_blk_ne h3 h2 (by omega))
  refine ⟨k1, ⟨one_setCell k1, ?_, ?_, h4, ?_⟩, ?_⟩
  · have hne : Bv ≠ Bo := by
      rintro rfl
      rw [h1] at h2
      simp at h2
    rw [Below.heap_setCell _ _ _ _ hne]; exact k2
  · have := ownsRow_setCell_other hown (a := ⟨Bo, 0, none⟩) (own_blk_ne hown k1 (by omega)) (.slice A1 (n + 1) c1)
    simpa using this
  · simp; exact Nat.le_trans h5 hg.size
  · exact ((Below.refl base w).grown hg h5 (fun k hk => (h3.lt k hk).1)).setCell h4 _

set_option maxHeartbeats 1600000 in
theorem visit_any : ∀ (t : Tr) (w : World) (v : Value) (lo hi base Bo Bv : Nat) (A : Option Addr) (n c : Nat) (bs : List Bool), IsT w lo hi v t → hi ≤ base → LS w base Bo Bv A n c bs → n + t.nodes ≤ 1000000000 →
    Calls Tryz.prog 147 #[v, .pointer (some ⟨Bo, 0, none⟩), .pointer (some ⟨Bv, 0, none⟩)] w fun e w' => e = .returned (.tuple #[]) ∧ (∃ A' c', LS w' base Bo Bv A' (n + t.nodes) c' (bs ++ t.bits)) ∧ Below base w w' := by
  intro t
  induction t with
  | nil =>
    intro w v lo hi base Bo Bv A n c bs h hhi hs hn
    obtain rfl : v = .pointer none := h
    have cO := cell_of_one hs.1
    have hown := hs.2.2.1
    have hsz := hs.2.2.2.2
    have hlt := lt_of_block hs.1
    simp only [Tr.nodes] at hn
    go_enter Tryz.func147, Tryz.ntmps147
    go_wp2_with (at_builtin; go_must (refine wpList_app1g eltB rfl _ _ rfl w base _ n _ (by rfl) hown _ (by rfl) (by rfl) (by omega) (by omega) ?_; rintro A2 c2 w2 hown2 hb2 hg2; obtain ⟨k1, hs2, hbb⟩ := hs.push (b := false) hown2 hg2; have fO := free_of_one k1; have cO2 := cell_of_one k1; clear cO))
    go_end0
    exact ⟨rfl, ⟨A2, c2, hs2⟩, hbb⟩
  | node l r ihl ihr =>
    intro w v lo hi base Bo Bv A n c bs h hhi hs hn
    rcases h.ptr with ⟨_, h0⟩ | ⟨b, vh, vt, h', t', rfl, ht, hb1, hb2, c0, c1, _, hh, ht2⟩
    · cases h0
    cases ht
    obtain ⟨o1, rfl⟩ := hh.isPtr
    obtain ⟨o2, rfl⟩ := ht2.isPtr
    have HN : Hid ((Tr.node l r).nodes = 1 + l.nodes + r.nodes) := Lib.hid rfl
    have hln : n + 1 + l.nodes ≤ 1000000000 := by have := HN.out; omega
    have hrn : n + 1 + l.nodes + r.nodes ≤ 1000000000 := by have := HN.out; omega
    have cO := cell_of_one hs.1
    have hown := hs.2.2.1
    have hsz := hs.2.2.2.2
    have hlt := lt_of_block hs.1
    have HL := Lib.hid ihl; have HR := Lib.hid ihr
    have HH := Lib.hid hh; have HT2 := Lib.hid ht2
    clear ihl ihr h hn hh ht2
    go_enter Tryz.func147, Tryz.ntmps147
    go_wp2_with (at_builtin; go_must (refine wpList_app1g eltB rfl _ _ rfl w base _ n _ (by rfl) hown _ (by rfl) (by rfl) (by omega) (by omega) ?_; rintro A2 c2 w2 hown2 hb2' hg2; obtain ⟨k1, hs2, hbb⟩ := hs.push (b := true) hown2 hg2; have fO := free_of_one k1; have cO2 := cell_of_one k1; clear cO))
    clear fO cO2 k1 hown hown2 hb2' hg2 hs hlt
    have c0 := (hbb.cell (p := ⟨b, 0, none⟩) (Nat.lt_of_lt_of_le hb2 hhi)).trans c0
    have c1 := (hbb.cell (p := ⟨b, 1, none⟩) (Nat.lt_of_lt_of_le hb2 hhi)).trans c1
    have hh := HH.out.below hbb hhi
    have ht2 := HT2.out.below hbb hhi
    generalize w2.setCell ⟨Bo, 0, none⟩ (.slice A2 (n + 1) c2) = w3 at *
    have cV := cell_of_one hs2.2.1
    go_region_held3 (fun w' => w'.cell? ⟨Bv, 0, none⟩ = some (.func (.func 147) #[] #[.pointer (some ⟨Bo, 0, none⟩), .pointer (some ⟨Bv, 0, none⟩)]) ∧ w'.cell? ⟨b, 0, none⟩ = some (.pointer o1)) (exact ⟨cV, c0⟩) (first
      | (go_at_call 147
         go_must (refine (HL.out _ _ lo hi base Bo Bv A2 (n + 1) c2 _ (by first | exact hh.drew | exact hh) hhi (by exact hs2) hln).mono ?_
                  rintro e w4 ⟨rfl, ⟨A4, c4, hs4⟩, hb4⟩
                  (try replace hb4 := below_undrew hb4)
                  have c0 := (hb4.cell (p := ⟨b, 0, none⟩) (Nat.lt_of_lt_of_le hb2 hhi)).trans c0
                  have cV := cell_of_one hs4.2.1)))
    have hb34 := hbb.trans hb4
    have c1 := (hb4.cell (p := ⟨b, 1, none⟩) (Nat.lt_of_lt_of_le hb2 hhi)).trans c1
    have ht4 := ht2.below hb4 hhi
    clear hs2 hh ht2 c0 hbb hb4
    go_wp2_with fail
    go_region_held3 (fun w' => w'.cell? ⟨Bv, 0, none⟩ = some (.func (.func 147) #[] #[.pointer (some ⟨Bo, 0, none⟩), .pointer (some ⟨Bv, 0, none⟩)]) ∧ w'.cell? ⟨b, 1, none⟩ = some (.pointer o2)) (exact ⟨cV, c1⟩) (first
      | (go_at_call 147
         go_must (refine (HR.out _ _ lo hi base Bo Bv A4 (n + 1 + l.nodes) c4 _ (by first | exact ht4.drew | exact ht4) hhi (by exact hs4) hrn).mono ?_
                  rintro e w5 ⟨rfl, ⟨A5, c5, hs5⟩, hb5⟩
                  (try replace hb5 := below_undrew hb5)
                  have c1 := (hb5.cell (p := ⟨b, 1, none⟩) (Nat.lt_of_lt_of_le hb2 hhi)).trans c1
                  have cV := cell_of_one hs5.2.1)))
    go_wp2_with fail
    go_end0
    refine ⟨rfl, ⟨A5, c5, ?_⟩, hb34.trans hb5⟩
    rw [HN.out, show n + (1 + l.nodes + r.nodes) = n + 1 + l.nodes + r.nodes by omega]
    have e : bs ++ (Tr.node l r).bits = bs ++ [true] ++ l.bits ++ r.bits := by simp [Tr.bits]
    rw [e]
    exact hs5
end Go.Proofs.YtadmbphefpfbmaaGreatDoor
/- The bits of a tree of pointers: list and checked. -/
namespace Go.Proofs.YtadmbphefpfbmaaGreatDoor
open Go.RowKit

/-- 'make([]T, 0, n)'. -/
theorem wpList_mk0 {P : Program} {ops : Array Oper} {rest : List Oper} {o : Oper} {a : Act} {Q : Exit → Act → World → Prop} {t e : TypeId} {z : Value} (hE : Elt P t e z) (hgd : o.guard = none) (l c : Operand) (ho : o.op = .makeSlice t l c)
    (w : World) (C : Int) (n : Nat) (hl : a.eval l = .int .i64 0) (hc : a.eval c = .int .i64 C) (hC : C = (n : Int)) (hn : n ≤ 1099511627776)
    (h : ∀ w', w'.ownsRow w.heap.size e 1 (.slice (some ⟨w.heap.size, 0, none⟩) 0 n) 0 [] → Below w.heap.size w w' → wpList P ops Q rest (a.put o.dst (.slice (some ⟨w.heap.size, 0, none⟩) 0 n)) w') :
    wpList P ops Q (o :: rest) a w := by
  obtain ⟨ht, hzc, i, hi, hz, hs1, hb⟩ := hE
  have hbn : i.bytes * n ≤ 24 * n := Nat.mul_le_mul_right _ hb
  refine wpList_make_own _ hgd l c t ho w.heap.size e i z 1 ht hi hz hs1 .i64 .i64 C n hl hc hC (by omega) (by unfold maxLen; omega) (Nat.le_refl _) ?_
  intro w' ho' hg
  exact h w' ho' (below_grown hg (Nat.le_refl _) (by simp))

/-- The two variables that the closure captures, just made. -/
theorem two_new {w1 : World} {o1 : Obj} {cs : Array Value} {T : Nat} : ((w1.alloc o1).alloc (.cells cs T)).heap[w1.heap.size + 1]? = some (.cells cs T (0, 0)) := by
  have := heap_alloc_new (w1.alloc o1) (.cells cs T)
  simpa using this
theorem two_old {w1 : World} {o2 : Obj} {cs : Array Value} {T : Nat} : ((w1.alloc (.cells cs T)).alloc o2).heap[w1.heap.size]? = some (.cells cs T (0, 0)) := by
  rw [Below.heap_alloc _ _ _ (by simp)]
  exact heap_alloc_new w1 (.cells cs T)
theorem LS.first {w1 : World} {base n c : Nat} {A : Option Addr} {bs : List Bool} (ho : w1.ownsRow base 4 1 (.slice A n c) n (bools bs)) (hb : base ≤ w1.heap.size) :
    LS ((w1.alloc (.cells #[.slice A n c] 22)).alloc (.cells #[.func (.func 147) #[] #[.pointer (some ⟨w1.heap.size, 0, none⟩), .pointer (some ⟨w1.heap.size + 1, 0, none⟩)]] 182))
      base w1.heap.size (w1.heap.size + 1) A n c bs :=
  ⟨two_old, two_new, (ho.alloc _).alloc _, hb, by simp; exact Nat.le_trans hb (by omega)⟩

set_option maxHeartbeats 1600000 in
theorem list_any (w : World) (lo : Nat) (v : Value) (t : Tr) (h : IsT w lo w.heap.size v t) (hn : t.nodes ≤ 1000000) : Calls Tryz.prog 105 #[v] w (RetS w 4 (bools t.bits)) := by
  obtain ⟨o, rfl⟩ := h.isPtr
  have HI := Lib.hid h
  clear h
  generalize hg : t.nodes = N at hn
  have HG := Lib.hid hg
  clear hg
  go_enter Tryz.func105, Tryz.ntmps105
  go_wp2_with (first
    | (go_at_call 95; go_must (refine (nodesOf_any _ lo _ _ _ HI.out).mono ?_; rintro e w' ⟨rfl, rfl⟩; rw [HG.out]))
    | (at_make; go_must (refine wpList_mk0 eltB rfl _ _ rfl _ _ N (by rfl) (by rfl) (by rfl) (by omega) ?_; rintro w1 hown1 hb1; have fV := free_of_one (two_new (w1 := w1) (o1 := .cells #[.slice (some ⟨w.heap.size, 0, none⟩) 0 N] 22) (cs := #[Value.nilFunc]) (T := 182)); have cV := cell_of_one (two_new (w1 := w1) (o1 := .cells #[.slice (some ⟨w.heap.size, 0, none⟩) 0 N] 22) (cs := #[Value.nilFunc]) (T := 182)))))
  have HS := Lib.hid (LS.first (bs := []) (c := N) (n := 0) (A := some ⟨w.heap.size, 0, none⟩) hown1 hb1.size)
  have HB := Lib.hid (((hb1.alloc hb1.size (.cells #[.slice (some ⟨w.heap.size, 0, none⟩) 0 N] 22)).alloc (by simp; exact Nat.le_trans hb1.size (by omega)) (.cells #[.func (.func 147) #[] #[.pointer (some ⟨w1.heap.size, 0, none⟩), .pointer (some ⟨w1.heap.size + 1, 0, none⟩)]] 182)))
  refine (visit_any t _ _ lo w.heap.size w.heap.size _ _ _ 0 N [] (HI.out.below HB.out (Nat.le_refl _)) (Nat.le_refl _) HS.out (by rw [HG.out]; omega)).mono ?_
  rintro e w4 ⟨rfl, ⟨A4, c4, hs4⟩, hb4⟩
  have cO := cell_of_one hs4.1
  go_wp2_with fail
  go_ret
  refine ⟨A4, _, c4, rfl, ?_, HB.out.trans hb4⟩
  have := hs4.2.2.1
  simpa using this

set_option maxHeartbeats 800000 in
theorem checked_any (w : World) (lo : Nat) (v : Value) (t : Tr) (h : IsT w lo w.heap.size v t) (hn : t.nodes ≤ 1000000) : Calls Tryz.prog 79 #[v] w (RetSI w 4 (bools (if t.nodes ≤ 2000 then t.bits else [])) (if t.nodes ≤ 2000 then 0 else 5)) := by
  obtain ⟨o, rfl⟩ := h.isPtr
  by_cases h2 : t.nodes ≤ 2000
  · rw [if_pos h2, if_pos h2]
    have HI := Lib.hid h
    have HN := Lib.hid hn
    clear h hn
    generalize hg : t.nodes = N at h2
    have HG := Lib.hid hg
    clear hg
    go_enter Tryz.func79, Tryz.ntmps79
    go_wp2_with (first
      | (go_at_call 95; go_must (refine (nodesOf_any _ lo _ _ _ HI.out).mono ?_; rintro e w' ⟨rfl, rfl⟩; rw [HG.out]))
      | (go_at_call 105; go_must (refine (list_any _ lo _ _ HI.out HN.out).mono ?_; rintro e w2 ⟨A2, n2, c2, rfl, ho2, hb2⟩)))
    go_ret2
    exact ⟨A2, n2, c2, rfl, ho2, hb2⟩
  · rw [if_neg h2, if_neg h2]
    have HI := Lib.hid h
    clear h hn
    generalize hg : t.nodes = N at h2
    have HG := Lib.hid hg
    clear hg
    go_enter Tryz.func79, Tryz.ntmps79
    go_wp2_with (go_at_call 95; go_must (refine (nodesOf_any _ lo _ _ _ HI.out).mono ?_; rintro e w' ⟨rfl, rfl⟩; rw [HG.out]))
    go_ret2
    exact ⟨none, 0, 0, rfl, own_nil _ _ _, Below.refl _ _⟩
end Go.Proofs.YtadmbphefpfbmaaGreatDoor
/- A tree of pointers out of its bits: the closure build, treeOf. -/
namespace Go.Proofs.YtadmbphefpfbmaaGreatDoor
open Go.RowKit

/-- The closure's state: the bits in the first variable, the place in the second, the closure itself in the third. -/
def BS (w0 w : World) (A : Option Addr) (n c k : Nat) : Prop :=
  w.heap[w0.heap.size]? = some (.cells #[.slice A n c] 22 (0, 0)) ∧ w.heap[w0.heap.size + 1]? = some (.cells #[.int .i64 k] 3 (0, 0)) ∧
  w.heap[w0.heap.size + 2]? = some (.cells #[.func (.func 117) #[] #[.pointer (some ⟨w0.heap.size, 0, none⟩), .pointer (some ⟨w0.heap.size + 1, 0, none⟩), .pointer (some ⟨w0.heap.size + 2, 0, none⟩)]] 159 (0, 0)) ∧
  Below w0.heap.size w0 w
theorem BS.put {w0 w : World} {A : Option Addr} {n c k : Nat} (h : BS w0 w A n c k) (k' : Nat) : BS w0 (w.setCell ⟨w0.heap.size + 1, 0, none⟩ (.int .i64 k')) A n c k' := by
  obtain ⟨h1, h2, h3, h4⟩ := h
  refine ⟨?_, one_setCell h2, ?_, h4.setCell (by simp) _⟩
  · rw [Below.heap_setCell _ _ _ _ (by simp)]; exact h1
  · rw [Below.heap_setCell _ _ _ _ (by simp)]; exact h3
theorem BS.below {w0 w w' : World} {A : Option Addr} {n c k : Nat} (h : BS w0 w A n c k) (hb : Below w.heap.size w w') : BS w0 w' A n c k := by
  obtain ⟨h1, h2, h3, h4⟩ := h
  exact ⟨(hb.block _ (lt_of_block h1)).trans h1, (hb.block _ (lt_of_block h2)).trans h2, (hb.block _ (lt_of_block h3)).trans h3, h4.trans (hb.mono h4.size)⟩
/-- What a call of the closure leaves. -/
def BRet (w0 w : World) (A : Option Addr) (n c k : Nat) (t : Tr) (e : Ending) (w' : World) : Prop :=
  ∃ v, e = .returned v ∧ IsT w' (w0.heap.size + 3) w'.heap.size v t ∧ BS w0 w' A n c (k + t.nodes) ∧ (∀ b, w0.heap.size + 3 ≤ b → b < w.heap.size → w'.heap[b]? = w.heap[b]?) ∧ w.heap.size ≤ w'.heap.size

set_option maxHeartbeats 1600000 in
theorem build_any (w0 : World) (A : Option Addr) (n c : Nat) (bs : List Bool) (hr : Rd w0 A n (bools bs)) (hn : n ≤ 1000000) : ∀ (t : Tr) (w : World) (k : Nat) (rest : List Bool), bs.drop k = t.bits ++ rest → BS w0 w A n c k →
    Calls Tryz.prog 117 #[.pointer (some ⟨w0.heap.size, 0, none⟩), .pointer (some ⟨w0.heap.size + 1, 0, none⟩), .pointer (some ⟨w0.heap.size + 2, 0, none⟩)] w (BRet w0 w A n c k t) := by
  have HLN : Hid (bs.length = n) := Lib.hid (by simpa using hr.1)
  intro t
  induction t with
  | nil =>
    intro w k rest hd hs
    have hget : bs[k]? = some false := by
      have h0 : (bs.drop k)[0]? = some false := by rw [hd]; rfl
      simpa using h0
    have hk : k < n := by rw [← HLN.out]; exact (List.getElem?_eq_some_iff.1 hget).1
    obtain ⟨b, off, rfl, hbs, hc⟩ := hr.at_ (k := k) (u := .bool false) (by simp [hget])
    have hc1 := (hs.2.2.2.cell (p := ⟨b, off + k, none⟩) hbs).trans hc
    have cT := cell_of_one hs.1
    have cK := cell_of_one hs.2.1
    have fK := free_of_one hs.2.1
    have HP := Lib.hid (hs.put (k + 1))
    have EK : Hid (((k : Int) + 1) = ((k + 1 : Nat) : Int)) := Lib.hid (by omega)
    clear hd hget hc
    go_enter Tryz.func117, Tryz.ntmps117
    go_wp2_with fail
    go_ret
    refine ⟨_, rfl, rfl, by rw [EK.out]; exact HP.out, ?_, by simp⟩
    intro b' h1 h2
    rw [Below.heap_setCell _ _ _ _ (by simp; omega)]
  | node l r ihl ihr =>
    intro w k rest hd hs
    have hd' : bs.drop k = true :: (l.bits ++ (r.bits ++ rest)) := by rw [hd]; simp [Tr.bits]
    have hget : bs[k]? = some true := by
      have h0 : (bs.drop k)[0]? = some true := by rw [hd']; rfl
      simpa using h0
    have hk : k < n := by rw [← HLN.out]; exact (List.getElem?_eq_some_iff.1 hget).1
    have HD1 : Hid (bs.drop (k + 1) = l.bits ++ (r.bits ++ rest)) := Lib.hid (by
      have h1 := drop_get hget
      rw [hd'] at h1
      simpa using h1.symm)
    have HD2 : Hid (bs.drop (k + 1 + l.nodes) = r.bits ++ rest) := Lib.hid (by
      rw [← List.drop_drop, HD1.out, ← l.bits_len]
      simp)
    obtain ⟨b, off, rfl, hbs, hc⟩ := hr.at_ (k := k) (u := .bool true) (by simp [hget])
    have hc1 := (hs.2.2.2.cell (p := ⟨b, off + k, none⟩) hbs).trans hc
    have cT := cell_of_one hs.1
    have cK := cell_of_one hs.2.1
    have fK := free_of_one hs.2.1
    have HP := Lib.hid (hs.put (k + 1))
    have EK : Hid (((k : Int) + 1) = ((k + 1 : Nat) : Int)) := Lib.hid (by omega)
    have cB := cell_of_one hs.2.2.1
    have HL := Lib.hid ihl; have HR := Lib.hid ihr
    have HN : Hid ((Tr.node l r).nodes = 1 + l.nodes + r.nodes) := Lib.hid rfl
    have hsum : Hid (l.nodes + r.nodes ≤ 1000000) := Lib.hid (by
      have h1 : (bs.drop k).length ≤ n := by simp [HLN.out]
      rw [hd'] at h1
      simp only [List.length_cons, List.length_append, Tr.bits_len] at h1
      omega)
    have HW : Hid (w.heap.size = (w.setCell ⟨w0.heap.size + 1, 0, none⟩ (.int .i64 ((k : Int) + 1))).heap.size ∧ ∀ b', w0.heap.size + 3 ≤ b' → (w.setCell ⟨w0.heap.size + 1, 0, none⟩ (.int .i64 ((k : Int) + 1))).heap[b']? = w.heap[b']?) := Lib.hid ⟨by simp, fun b' h1 => by rw [Below.heap_setCell _ _ _ _ (by simp; omega)]⟩
    have hbig : w0.heap.size + 3 ≤ w.heap.size := lt_of_block hs.2.2.1
    clear hd hd' hget hc ihl ihr
    go_enter Tryz.func117, Tryz.ntmps117
    go_wp2_with fail
    have HP' : BS w0 (w.setCell ⟨w0.heap.size + 1, 0, none⟩ (.int .i64 ((k : Int) + 1))) (some ⟨b, off, none⟩) n c (k + 1) := by rw [EK.out]; exact HP.out
    clear cT cK fK hc1 cB HP
    obtain ⟨hw1, hw2⟩ := HW.out
    clear HW
    generalize w.setCell ⟨w0.heap.size + 1, 0, none⟩ (.int .i64 ((k : Int) + 1)) = w1 at *
    refine (HL.out _ (k + 1) _ HD1.out HP').mono ?_
    rintro e w2 ⟨v2, rfl, h2, hs2, hk2, hz2⟩
    obtain ⟨o2, rfl⟩ := h2.isPtr
    have cB := cell_of_one hs2.2.2.1
    have HW1 := Lib.hid hw1; have HW2 := Lib.hid hw2; have HK2 := Lib.hid hk2
    clear hw1 hw2 hk2 HP'
    go_wp2_with fail
    refine (HR.out _ (k + 1 + l.nodes) _ HD2.out hs2).mono ?_
    rintro e w3 ⟨v3, rfl, h3, hs3, hk3, hz3⟩
    obtain ⟨o3, rfl⟩ := h3.isPtr
    have h2' := (h2.keep hk3).wide (Nat.le_refl _) hz3
    have HK3 := Lib.hid hk3
    have hl3 : w0.heap.size + 3 ≤ w3.heap.size := lt_of_block hs3.2.2.1
    clear hk3 cB h2
    go_wp2_with fail
    refine (pair_any _ (w0.heap.size + 3) _ _ _ _ h2' h3 hl3 (by have := hsum.out; omega) (by have := hsum.out; omega)).mono ?_
    rintro e w4 ⟨v4, rfl, h4, hb4⟩
    obtain ⟨o4, rfl⟩ := h4.isPtr
    have hs4 := hs3.below hb4
    go_wp2_with fail
    go_ret
    refine ⟨_, rfl, h4, ?_, ?_, ?_⟩
    · rw [HN.out, show k + (1 + l.nodes + r.nodes) = k + 1 + l.nodes + r.nodes by omega]; exact hs4
    · intro b' q1 q2
      have q3 : b' < w1.heap.size := by rw [← HW1.out]; exact q2
      have q4 := Nat.lt_of_lt_of_le q3 hz2
      rw [hb4.block b' (Nat.lt_of_lt_of_le q4 hz3), HK3.out b' q1 q4, HK2.out b' q1 q3, HW2.out b' q1]
    · rw [HW1.out]; exact Nat.le_trans (Nat.le_trans hz2 hz3) hb4.size

theorem BS.first (w : World) (A : Option Addr) (n c : Nat) : BS w (((w.alloc (.cells #[.slice A n c] 22)).alloc (.cells #[.int .i64 0] 3)).alloc
    (.cells #[.func (.func 117) #[] #[.pointer (some ⟨w.heap.size, 0, none⟩), .pointer (some ⟨w.heap.size + 1, 0, none⟩), .pointer (some ⟨w.heap.size + 1 + 1, 0, none⟩)]] 159)) A n c 0 := by
  refine ⟨?_, ?_, ?_, ?_⟩
  · rw [Below.heap_alloc _ _ _ (by simp; omega), Below.heap_alloc _ _ _ (by simp)]
    exact heap_alloc_new w _
  · rw [Below.heap_alloc _ _ _ (by simp)]
    exact two_new
  · have := two_new (w1 := w.alloc (.cells #[.slice A n c] 22)) (o1 := .cells #[.int .i64 0] 3) (cs := #[.func (.func 117) #[] #[.pointer (some ⟨w.heap.size, 0, none⟩), .pointer (some ⟨w.heap.size + 1, 0, none⟩), .pointer (some ⟨w.heap.size + 1 + 1, 0, none⟩)]]) (T := 159)
    simpa using this
  · exact (((Below.refl _ _).alloc (Nat.le_refl _) _).alloc (by simp) _).alloc (by simp; omega) _

set_option maxHeartbeats 1600000 in
theorem treeOf_any (w : World) (A : Option Addr) (n c : Nat) (t : Tr) (hr : Rd w A n (bools t.bits)) (hn : n ≤ 1000000) : Calls Tryz.prog 76 #[.slice A n c] w (RetTr w w.heap.size t) := by
  go_enter Tryz.func76, Tryz.ntmps76
  go_wp2_with fail
  refine (build_any w A n c t.bits hr hn t _ 0 [] (by simp) (BS.first w A n c)).mono ?_
  rintro e w2 ⟨v2, rfl, h2, hs2, _, hz2⟩
  obtain ⟨o2, rfl⟩ := h2.isPtr
  go_wp2_with fail
  go_ret
  exact ⟨_, rfl, h2.wide (by omega) (Nat.le_refl _), hs2.2.2.2⟩
end Go.Proofs.YtadmbphefpfbmaaGreatDoor
/- Whether bits are a tree: the reference's scan and the program's. -/
namespace Go.Proofs.YtadmbphefpfbmaaGreatDoor
open Go.RowKit

theorem scan_false {bs : List Bool} {k m : Nat} (h : bs[k]? = some false) : scan (bs.drop k) (m + 1) = scan (bs.drop (k + 1)) m := by rw [drop_get h]; rfl
theorem scan_true {bs : List Bool} {k m : Nat} (h : bs[k]? = some true) : scan (bs.drop k) (m + 1) = scan (bs.drop (k + 1)) (m + 2) := by rw [drop_get h]; rfl
/-- Where the tree that begins at k ends, and whether it ends. -/
def endAt (bs : List Bool) (k : Nat) : Nat × Bool := match scan (bs.drop k) 1 with
  | some r => (bs.length - r.length, true)
  | none => (bs.length, false)
theorem endAt_some {bs : List Bool} {k j : Nat} (h : scan (bs.drop k) 1 = some (bs.drop j)) (hj : j ≤ bs.length) : endAt bs k = (j, true) := by
  simp only [endAt, h, List.length_drop]
  congr 1
  omega
theorem endAt_none {bs : List Bool} {k : Nat} (h : scan (bs.drop k) 1 = none) : endAt bs k = (bs.length, false) := by simp only [endAt, h]

set_option maxHeartbeats 800000 in
theorem l21End_any (w : World) (A : Option Addr) (n c : Nat) (bs : List Bool) (hr : Rd w A n (bools bs)) (hn : n ≤ 1099511627776) (k0 : Nat) (hk0 : k0 ≤ n) :
    Calls Tryz.prog 80 #[.slice A n c, .int .i64 k0] w fun e w' => e = .returned (.tuple #[.int .i64 (endAt bs k0).1, .bool (endAt bs k0).2]) ∧ w = w' := by
  have HL : Hid (bs.length = n) := Lib.hid (by simpa using hr.1)
  go_enter Tryz.func80, Tryz.ntmps80
  go_wp2_with fail
  go_loop [1, 6] (fun q o => ∃ k m : Nat, k ≤ n ∧ m ≤ k + 1 ∧ q = .int .i64 k ∧ o = .int .i64 m ∧ Hid (scan (bs.drop k0) 1 = scan (bs.drop k) m)) (fun q _ => n + 1 - (intOf q).toNat)
  case atStart => exact ⟨k0, 1, hk0, by omega, rfl, rfl, Lib.hid rfl⟩
  case round =>
    obtain ⟨k, m, hk, hm, rfl, rfl, HS⟩ := hrel
    rcases m with _ | m
    · have HE := Lib.hid (endAt_some (bs := bs) (k := k0) (j := k) (by rw [HS.out]; cases bs.drop k <;> rfl) (by rw [HL.out]; exact hk))
      go_wp2_with fail
      go_ret2
      exact ⟨by rw [HE.out]; rfl, rfl⟩
    · have hm1 : (0 : Int) < (m : Int) + 1 := by omega
      by_cases hkn : k = n
      · subst hkn
        have HE := Lib.hid (endAt_none (bs := bs) (k := k0) (by rw [HS.out, List.drop_of_length_le (by rw [HL.out]; omega)]; rfl))
        go_wp2_with fail
        go_ret2
        exact ⟨by rw [HE.out, HL.out]; rfl, rfl⟩
      · have hlt : k < n := by omega
        have hne : ((k : Int) == (n : Int)) = false := by simp; omega
        obtain ⟨b, hb⟩ := get_some (xs := bs) (k := k) (by rw [HL.out]; exact hlt)
        obtain ⟨blk, off, rfl, hbs, hc⟩ := hr.at_ (k := k) (u := .bool b) (by simp [hb])
        cases b
        · have HG := Lib.hid (scan_false (m := m) hb)
          clear hb hkn
          go_wp2_with fail
          go_round
          case rel => exact ⟨k + 1, m, by omega, by omega, by go_num, by go_num, Lib.hid (by rw [HS.out, HG.out])⟩
          case measure => simp [intOf]; omega
        · have HG := Lib.hid (scan_true (m := m) hb)
          clear hb hkn
          go_wp2_with fail
          go_round
          case rel => exact ⟨k + 1, m + 2, by omega, by omega, by go_num, by go_num, Lib.hid (by rw [HS.out, HG.out])⟩
          case measure => simp [intOf]; omega
theorem endAt_whole (bs : List Bool) : (scan bs 1 == some []) = ((endAt bs 0).2 && decide ((endAt bs 0).1 = bs.length)) := by
  simp only [endAt, List.drop_zero]
  cases h : scan bs 1 with
  | none => simp
  | some r =>
    have hlen : r.length ≤ bs.length := by
      have key : ∀ (bs : List Bool) (n : Nat) (r : List Bool), scan bs n = some r → r.length ≤ bs.length := by
        intro bs
        induction bs with
        | nil => intro n r h; cases n <;> simp [scan] at h; simp [← h]
        | cons b bs ih =>
          intro n r h
          cases n with
          | zero => simp [scan] at h; simp [← h]
          | succ n => have := ih _ _ h; simp; omega
      exact key _ _ _ h
    cases r with
    | nil => simp
    | cons x xs => simp; intro hh; simp at hlen; omega
set_option maxHeartbeats 400000 in
theorem l21Whole_any (w : World) (A : Option Addr) (n c : Nat) (bs : List Bool) (hr : Rd w A n (bools bs)) (hn : n ≤ 1099511627776) : Calls Tryz.prog 50 #[.slice A n c] w fun e w' => e = .returned (.bool (scan bs 1 == some [])) ∧ w = w' := by
  have HL : Hid (bs.length = n) := Lib.hid (by simpa using hr.1)
  have HE := Lib.hid (endAt_whole bs)
  rcases hq : endAt bs 0 with ⟨j, b⟩
  have HQ := Lib.hid hq
  clear hq
  cases b
  · go_enter Tryz.func50, Tryz.ntmps50
    go_wp2_with (go_at_call 80; go_must (refine (l21End_any _ _ _ _ _ hr hn 0 (by omega)).mono ?_; rw [HQ.out]; rintro e w' ⟨rfl, rfl⟩))
    go_ret
    exact ⟨by rw [HE.out, HQ.out]; rfl, rfl⟩
  · by_cases hj : j = n
    · have ht : ((j : Int) == (n : Int)) = true := by simp; omega
      have HJ := Lib.hid hj
      clear hj
      go_enter Tryz.func50, Tryz.ntmps50
      go_wp2_with (go_at_call 80; go_must (refine (l21End_any _ _ _ _ _ hr hn 0 (by omega)).mono ?_; rw [HQ.out]; rintro e w' ⟨rfl, rfl⟩))
      go_ret
      exact ⟨by rw [HE.out, HQ.out, HL.out]; simp [HJ.out], rfl⟩
    · have ht : ((j : Int) == (n : Int)) = false := by simp; omega
      have HJ := Lib.hid hj
      clear hj
      go_enter Tryz.func50, Tryz.ntmps50
      go_wp2_with (go_at_call 80; go_must (refine (l21End_any _ _ _ _ _ hr hn 0 (by omega)).mono ?_; rw [HQ.out]; rintro e w' ⟨rfl, rfl⟩))
      go_ret
      exact ⟨by rw [HE.out, HQ.out, HL.out]; simp [HJ.out], rfl⟩
set_option maxHeartbeats 400000 in
theorem l21Is_any (w : World) (A : Option Addr) (n c : Nat) (bs : List Bool) (hr : Rd w A n (bools bs)) (hn : n ≤ 1099511627776) : Calls Tryz.prog 22 #[.slice A n c] w fun e w' => e = .returned (.bool (isTr bs)) ∧ w = w' := by
  have HL : Hid (bs.length = n) := Lib.hid (by simpa using hr.1)
  by_cases h2 : n ≤ 2000
  · have HI : Hid (isTr bs = (scan bs 1 == some [])) := Lib.hid (by simp [isTr, HL.out, h2])
    generalize hq : (scan bs 1 == some []) = q at HI
    have HQ := Lib.hid hq
    clear hq
    go_enter Tryz.func22, Tryz.ntmps22
    go_wp2_with (go_at_call 50; go_must (refine (l21Whole_any _ _ _ _ _ hr hn).mono ?_; rw [HQ.out]; rintro e w' ⟨rfl, rfl⟩))
    go_ret
    exact ⟨by rw [HI.out]; rfl, rfl⟩
  · have HI : Hid (isTr bs = false) := Lib.hid (by simp [isTr, HL.out, h2])
    go_enter Tryz.func22, Tryz.ntmps22
    go_wp2_with fail
    go_ret
    exact ⟨by rw [HI.out]; rfl, rfl⟩

set_option maxHeartbeats 400000 in
theorem follows_any (w : World) (b : Bool) : Calls Tryz.prog 159 #[.bool b] w fun e w' => e = .returned (.int .i64 (if b then 2 else 0)) ∧ w = w' := by
  cases b
  all_goals
    go_enter Tryz.func159, Tryz.ntmps159
    go_wp2_with fail
    go_ret
    exact ⟨rfl, rfl⟩
set_option maxHeartbeats 400000 in
theorem sizeB_any (w : World) (A : Option Addr) (n c : Nat) : Calls Tryz.prog 157 #[.slice A n c] w fun e w' => e = .returned (.int .i64 n) ∧ w = w' := by
  go_enter Tryz.func157, Tryz.ntmps157
  go_wp2_with fail
  go_ret
  exact ⟨rfl, rfl⟩
/-- The place behind the first tree, or -1. -/
def endOf (bs : List Bool) : Int := if (endAt bs 0).2 then (endAt bs 0).1 else -1
theorem endOf_whole (bs : List Bool) : (scan bs 1 == some []) = (endOf bs == (bs.length : Int)) := by
  rw [endAt_whole]
  unfold endOf
  rcases endAt bs 0 with ⟨j, b⟩
  cases b
  · simp
  · simp only [Bool.true_and, if_true]
    by_cases h : j = bs.length
    · subst h; simp
    · have : ¬ ((j : Int) = (bs.length : Int)) := by omega
      simp [h, this]
set_option maxHeartbeats 800000 in
theorem termEnd_any (w : World) (A : Option Addr) (n c : Nat) (bs : List Bool) (hr : Rd w A n (bools bs)) (hn : n ≤ 1099511627776) :
    Calls Tryz.prog 158 #[.slice A n c, .int .i64 0, .func (.func 159) #[] #[]] w fun e w' => e = .returned (.int .i64 (endOf bs)) ∧ w = w' := by
  have HL : Hid (bs.length = n) := Lib.hid (by simpa using hr.1)
  go_enter Tryz.func158, Tryz.ntmps158
  go_wp2_with fail
  go_loop [1, 7] (fun q o => ∃ k m : Nat, k ≤ n ∧ m ≤ k + 1 ∧ q = .int .i64 k ∧ o = .int .i64 m ∧ Hid (scan (bs.drop 0) 1 = scan (bs.drop k) m)) (fun q _ => n + 1 - (intOf q).toNat)
  case atStart => exact ⟨0, 1, by omega, by omega, rfl, rfl, Lib.hid rfl⟩
  case round =>
    obtain ⟨k, m, hk, hm, rfl, rfl, HS⟩ := hrel
    rcases m with _ | m
    · have HE := Lib.hid (endAt_some (bs := bs) (k := 0) (j := k) (by rw [HS.out]; cases bs.drop k <;> rfl) (by rw [HL.out]; exact hk))
      go_wp2_with fail
      go_ret
      exact ⟨by rw [endOf, HE.out]; rfl, rfl⟩
    · have hm1 : (0 : Int) < (m : Int) + 1 := by omega
      by_cases hkn : k = n
      · subst hkn
        have HE := Lib.hid (endAt_none (bs := bs) (k := 0) (by rw [HS.out, List.drop_of_length_le (by rw [HL.out]; omega)]; rfl))
        go_wp2_with fail
        go_ret
        exact ⟨by rw [endOf, HE.out]; rfl, rfl⟩
      · have hlt : k < n := by omega
        obtain ⟨b, hb⟩ := get_some (xs := bs) (k := k) (by rw [HL.out]; exact hlt)
        obtain ⟨blk, off, rfl, hbs, hc⟩ := hr.at_ (k := k) (u := .bool b) (by simp [hb])
        cases b
        · have HG := Lib.hid (scan_false (m := m) hb)
          clear hb hkn
          go_wp2_with (go_at_call 159; go_must (refine (follows_any _ _).mono ?_; rintro e w' ⟨rfl, rfl⟩))
          go_round
          case rel => exact ⟨k + 1, m, by omega, by omega, by go_num, by go_num, Lib.hid (by rw [HS.out, HG.out])⟩
          case measure => simp [intOf]; omega
        · have HG := Lib.hid (scan_true (m := m) hb)
          clear hb hkn
          go_wp2_with (go_at_call 159; go_must (refine (follows_any _ _).mono ?_; rintro e w' ⟨rfl, rfl⟩))
          go_round
          case rel => exact ⟨k + 1, m + 2, by omega, by omega, by go_num, by go_num, Lib.hid (by rw [HS.out, HG.out])⟩
          case measure => simp [intOf]; omega
set_option maxHeartbeats 800000 in
theorem IsTree_any (w : World) (A : Option Addr) (n c : Nat) (bs : List Bool) (hr : Rd w A n (bools bs)) (hn : n ≤ 1099511627776) : Calls Tryz.prog 115 #[.slice A n c] w fun e w' => e = .returned (.bool (isTr bs)) ∧ w = w' := by
  have HL : Hid (bs.length = n) := Lib.hid (by simpa using hr.1)
  by_cases h2 : inB n 1 2000 = true
  · have HI : Hid (isTr bs = (endOf bs == (n : Int))) := Lib.hid (by
      have := inB_true.1 h2
      rw [isTr, endOf_whole, HL.out]
      have h3 : n ≤ 2000 := by omega
      simp [h3])
    generalize hq : endOf bs = q at HI
    have HQ := Lib.hid hq
    clear hq
    by_cases hj : q = (n : Int)
    · have ht : (q == (n : Int)) = true := by simpa using hj
      have HT := Lib.hid ht
      clear hj
      go_enter Tryz.func115, Tryz.ntmps115
      go_wp2_with (first
        | (go_at_call 157; go_must (refine (sizeB_any _ _ _ _).mono ?_; rintro e w' ⟨rfl, rfl⟩))
        | (go_at_call 46; go_must (refine (within_any _ _ _ _).mono ?_; rw [h2]; rintro e w' ⟨rfl, rfl⟩))
        | (go_at_call 158; go_must (refine (termEnd_any _ _ _ _ _ hr hn).mono ?_; rw [HQ.out]; rintro e w' ⟨rfl, rfl⟩)))
      go_ret
      exact ⟨by rw [HI.out, HT.out]; rfl, rfl⟩
    · have ht : (q == (n : Int)) = false := by simpa using hj
      have HT := Lib.hid ht
      clear hj
      go_enter Tryz.func115, Tryz.ntmps115
      go_wp2_with (first
        | (go_at_call 157; go_must (refine (sizeB_any _ _ _ _).mono ?_; rintro e w' ⟨rfl, rfl⟩))
        | (go_at_call 46; go_must (refine (within_any _ _ _ _).mono ?_; rw [h2]; rintro e w' ⟨rfl, rfl⟩))
        | (go_at_call 158; go_must (refine (termEnd_any _ _ _ _ _ hr hn).mono ?_; rw [HQ.out]; rintro e w' ⟨rfl, rfl⟩)))
      go_ret
      exact ⟨by rw [HI.out, HT.out]; rfl, rfl⟩
  · have h2' : inB n 1 2000 = false := by simpa using h2
    have HI : Hid (isTr bs = false) := Lib.hid (by
      have := inB_false.1 h2'
      by_cases h3 : n ≤ 2000
      · have h0 : n = 0 := by omega
        have : bs = [] := List.eq_nil_of_length_eq_zero (by rw [HL.out, h0])
        subst this
        rfl
      · simp [isTr, HL.out, h3])
    clear h2
    go_enter Tryz.func115, Tryz.ntmps115
    go_wp2_with (first
      | (go_at_call 157; go_must (refine (sizeB_any _ _ _ _).mono ?_; rintro e w' ⟨rfl, rfl⟩))
      | (go_at_call 46; go_must (refine (within_any _ _ _ _).mono ?_; rw [h2']; rintro e w' ⟨rfl, rfl⟩)))
    go_ret
    exact ⟨by rw [HI.out]; rfl, rfl⟩
end Go.Proofs.YtadmbphefpfbmaaGreatDoor
/- Slices of slices of bools that are read; whether all are trees. -/
namespace Go.Proofs.YtadmbphefpfbmaaGreatDoor
open Go.RowKit

/-- A slice of slices of bools: its cells are slice values, and each reads as a list. -/
def RdB (w : World) (A : Option Addr) (n : Nat) (xss : List (List Bool)) : Prop :=
  ∃ vs : List Value, Rd w A n vs ∧ vs.length = xss.length ∧ ∀ (i : Nat) (v : Value) (xs : List Bool), vs[i]? = some v → xss[i]? = some xs → ∃ A' n' c', v = .slice A' n' c' ∧ n' ≤ 1000000000 ∧ Rd w A' n' (bools xs)
theorem RdB.len {w : World} {A : Option Addr} {n : Nat} {xss : List (List Bool)} (h : RdB w A n xss) : xss.length = n := by
  obtain ⟨vs, h1, h2, _⟩ := h; rw [← h2, h1.1]
theorem RdB.at_ {w : World} {A : Option Addr} {n k : Nat} {xss : List (List Bool)} {xs : List Bool} (h : RdB w A n xss) (hx : xss[k]? = some xs) :
    ∃ b off A' n' c', A = some ⟨b, off, none⟩ ∧ b < w.heap.size ∧ w.cell? ⟨b, off + k, none⟩ = some (.slice A' n' c') ∧ n' ≤ 1000000000 ∧ Rd w A' n' (bools xs) := by
  obtain ⟨vs, h1, h2, h3⟩ := h
  have hk : k < vs.length := by rw [h2]; exact (List.getElem?_eq_some_iff.1 hx).1
  obtain ⟨v, hv⟩ := get_some hk
  obtain ⟨A', n', c', rfl, hn', hr'⟩ := h3 k v xs hv hx
  obtain ⟨b, off, e, hb, hc⟩ := h1.at_ hv
  exact ⟨b, off, A', n', c', e, hb, hc, hn', hr'⟩
theorem RdB.below {w w' : World} {A : Option Addr} {n B : Nat} {xss : List (List Bool)} (h : RdB w A n xss) (hb : Below B w w') (hB : w.heap.size ≤ B) : RdB w' A n xss := by
  obtain ⟨vs, h1, h2, h3⟩ := h
  refine ⟨vs, h1.below hb hB, h2, fun i v xs hv hx => ?_⟩
  obtain ⟨A', n', c', e, hn', hr'⟩ := h3 i v xs hv hx
  exact ⟨A', n', c', e, hn', hr'.below hb hB⟩

def allTr (xss : List (List Bool)) : Bool := xss.all isTr

set_option maxHeartbeats 400000 in
theorem areTrees1_any (w : World) (A : Option Addr) (n c : Nat) (xs : List Bool) (hr : Rd w A n (bools xs)) (hn : n ≤ 1000000000) :
    Calls Tryz.prog 114 #[.slice A n c] w fun e w' => e = .returned (.bool (!isTr xs)) ∧ w = w' := by
  go_enter Tryz.func114, Tryz.ntmps114
  go_wp2_with (go_at_call 115; refine (IsTree_any _ _ _ _ _ hr (by omega)).mono ?_; rintro e w' ⟨rfl, rfl⟩)
  go_ret
  exact ⟨rfl, rfl⟩

theorem allTr_take_step {xss : List (List Bool)} {k : Nat} {xs : List Bool} (h : allTr (xss.take k) = true) (hx : xss[k]? = some xs) (hn : isTr xs = true) : allTr (xss.take (k + 1)) = true := by
  rw [List.take_add_one, hx]
  simp only [allTr, List.all_append, Bool.and_eq_true] at h ⊢
  exact ⟨h, by simp [hn]⟩
theorem allTr_out {xss : List (List Bool)} {k : Nat} {xs : List Bool} (hx : xss[k]? = some xs) (hn : isTr xs = false) : allTr xss = false := by
  obtain ⟨hk, rfl⟩ := List.getElem?_eq_some_iff.1 hx
  simp only [allTr, List.all_eq_false]
  exact ⟨_, List.getElem_mem hk, by simp [hn]⟩

/-- The index that a search returns: not negative just where something was found. -/
def FoundB (w : World) (bad : Bool) (e : Ending) (w' : World) : Prop := ∃ i : Int, e = .returned (.int .i64 i) ∧ decide (0 ≤ i) = bad ∧ w = w'

set_option maxHeartbeats 1000000 in
theorem indexFuncB_any (w : World) (A : Option Addr) (n c : Nat) (xss : List (List Bool)) (hr : RdB w A n xss) (hn : n ≤ 1000000000) :
    Calls Tryz.prog 156 #[.slice A n c, .func (.func 114) #[] #[]] w (FoundB w (!allTr xss)) := by
  have HL : Hid (xss.length = n) := Lib.hid hr.len
  go_enter Tryz.func156, Tryz.ntmps156
  go_wp2_with fail
  go_loop [8] (fun q => ∃ k : Nat, k ≤ n ∧ q = .int .i64 k ∧ Hid (allTr (xss.take k) = true)) (fun q => n - (intOf q).toNat)
  case atStart => exact ⟨0, Nat.zero_le _, rfl, Lib.hid (by simp [allTr])⟩
  case round =>
    obtain ⟨k, hk, rfl, hall⟩ := hrel
    by_cases h1 : k < n
    · obtain ⟨xs, hx⟩ := get_some (xs := xss) (k := k) (by rw [HL.out]; omega)
      obtain ⟨b, off, A', n', c', rfl, hbk, hcx, hn', hr'⟩ := hr.at_ hx
      have HX := Lib.hid hx
      clear hx
      by_cases hin : isTr xs = true
      · go_wp2_with (go_at_call 114; refine (areTrees1_any _ _ _ _ _ hr' hn').mono ?_; rintro e w' ⟨rfl, rfl⟩)
        go_round
        case rel => exact ⟨k + 1, by omega, by go_num, Lib.hid (allTr_take_step hall.out HX.out hin)⟩
        case measure => simp [intOf]; omega
      · have hin' : isTr xs = false := by simpa using hin
        clear hin
        go_wp2_with (go_at_call 114; refine (areTrees1_any _ _ _ _ _ hr' hn').mono ?_; rintro e w' ⟨rfl, rfl⟩)
        go_ret
        exact ⟨k, rfl, by rw [allTr_out HX.out hin']; simp, rfl⟩
    · go_wp2_with fail
      go_ret
      have h := hall.out
      rw [List.take_of_length_le (by rw [HL.out]; omega)] at h
      exact ⟨-1, rfl, by rw [h]; rfl, rfl⟩

set_option maxHeartbeats 400000 in
theorem containsFuncB_any (w : World) (A : Option Addr) (n c : Nat) (xss : List (List Bool)) (hr : RdB w A n xss) (hn : n ≤ 1000000000) :
    Calls Tryz.prog 113 #[.slice A n c, .func (.func 114) #[] #[]] w fun e w' => e = .returned (.bool (!allTr xss)) ∧ w = w' := by
  go_enter Tryz.func113, Tryz.ntmps113
  go_wp2_with fail
  refine (indexFuncB_any _ _ _ _ _ hr hn).mono ?_
  rintro e w' ⟨i, rfl, hi, rfl⟩
  have HI := Lib.hid hi; clear hi
  go_wp2_with fail
  go_ret
  exact ⟨by rw [← HI.out]; rfl, rfl⟩

set_option maxHeartbeats 400000 in
theorem areTrees_any (w : World) (A : Option Addr) (n c : Nat) (xss : List (List Bool)) (hr : RdB w A n xss) (hn : n ≤ 1000000000) :
    Calls Tryz.prog 74 #[.slice A n c] w fun e w' => e = .returned (.bool (allTr xss)) ∧ w = w' := by
  go_enter Tryz.func74, Tryz.ntmps74
  go_wp2_with (go_at_call 113; refine (containsFuncB_any _ _ _ _ _ hr hn).mono ?_; rintro e w' ⟨rfl, rfl⟩)
  go_ret
  exact ⟨by simp, rfl⟩

end Go.Proofs.YtadmbphefpfbmaaGreatDoor
