/- Texts in one file: ExM, DecM, ElM, ExW, ExV, ExI, ExC, ExD, ExF, PairB, ExS, ExT, LawExpr. -/
import Derived.Test.YtadmbphefpfbmaaGreatDoorGC
import Derived.Test.YtadmbphefpfbmaaGreatDoorGA
/- Expressions in plain Lean: elements, the scan, the expressions of a suffix, codes. -/
namespace Go.Proofs.YtadmbphefpfbmaaGreatDoor
open Go.RowKit

abbrev El := Int × Int
def fol (x : El) : Nat := if x.1 = 3 ∨ x.1 = 4 then 1 else if x.1 = 2 ∨ x.1 = 5 then 2 else 0
theorem fol_le (x : El) : fol x ≤ 2 := by unfold fol; split <;> (try split) <;> omega
inductive Ex where
  | leaf (x : El)
  | un (x : El) (a : Ex)
  | bin (x : El) (a b : Ex)
def Ex.els : Ex → List El
  | .leaf x => [x]
  | .un x a => x :: a.els
  | .bin x a b => x :: (a.els ++ b.els)
def Ex.top : Ex → El
  | .leaf x => x
  | .un x _ => x
  | .bin x _ _ => x
def Ex.good : Ex → Prop
  | .leaf x => fol x = 0
  | .un x a => fol x = 1 ∧ a.good
  | .bin x a b => fol x = 2 ∧ a.good ∧ b.good
theorem Ex.els_pos : ∀ e : Ex, 1 ≤ e.els.length
  | .leaf x => Nat.le_refl _
  | .un x a => by simp [Ex.els]
  | .bin x a b => by simp [Ex.els]
theorem Ex.els_top (e : Ex) : e.els[0]? = some e.top := by cases e <;> rfl
def scanE : List El → Nat → Option (List El)
  | r, 0 => some r
  | [], _ + 1 => none
  | x :: r, n + 1 => scanE r (n + fol x)
theorem scanE_els : ∀ (e : Ex) (r : List El) (n : Nat), e.good → scanE (e.els ++ r) (n + 1) = scanE r n
  | .leaf x, r, n, h => by simp [Ex.els, scanE, show fol x = 0 from h]
  | .un x a, r, n, h => by
    show scanE (a.els ++ r) (n + fol x) = _
    rw [h.1, scanE_els a r n h.2]
  | .bin x a b, r, n, h => by
    have e : (Ex.bin x a b).els ++ r = x :: (a.els ++ (b.els ++ r)) := by simp [Ex.els]
    rw [e]
    show scanE (a.els ++ (b.els ++ r)) (n + fol x) = _
    rw [h.1, scanE_els a _ (n + 1) h.2.1, scanE_els b _ n h.2.2]
def forestE : List El → List Ex
  | [] => []
  | x :: r => match fol x, forestE r with
    | 0, ts => .leaf x :: ts
    | 1, a :: ts => .un x a :: ts
    | 2, a :: b :: ts => .bin x a b :: ts
    | _, ts => ts
theorem forestE_leaf {x : El} (r : List El) (h : fol x = 0) : forestE (x :: r) = .leaf x :: forestE r := by simp [forestE, h]
theorem forestE_un {x : El} {r : List El} {a : Ex} {ts : List Ex} (h : fol x = 1) (e : forestE r = a :: ts) : forestE (x :: r) = .un x a :: ts := by simp [forestE, h, e]
theorem forestE_bin {x : El} {r : List El} {a b : Ex} {ts : List Ex} (h : fol x = 2) (e : forestE r = a :: b :: ts) : forestE (x :: r) = .bin x a b :: ts := by simp [forestE, h, e]
theorem fol_cases (x : El) : fol x = 0 ∨ fol x = 1 ∨ fol x = 2 := by have := fol_le x; omega
theorem scanE_forest : ∀ (es : List El) (n : Nat), scanE es n = some [] → (forestE es).length = n ∧ (forestE es).flatMap Ex.els = es ∧ ∀ t ∈ forestE es, t.good
  | [], 0, _ => by simp [forestE]
  | [], n + 1, h => by simp [scanE] at h
  | x :: r, 0, h => by simp [scanE] at h
  | x :: r, n + 1, h => by
    obtain ⟨h1, h2, h3⟩ := scanE_forest r (n + fol x) h
    rcases fol_cases x with e | e | e
    · rw [forestE_leaf r e]
      refine ⟨by simp [h1, e], by simp [h2, Ex.els], ?_⟩
      intro t ht
      rcases List.mem_cons.1 ht with rfl | ht
      · exact e
      · exact h3 t ht
    · match hf : forestE r, h1, h2, h3 with
      | a :: ts, h1, h2, h3 =>
        rw [forestE_un e hf]
        refine ⟨by simp at h1 ⊢; omega, by rw [← h2]; simp [Ex.els], ?_⟩
        intro t ht
        rcases List.mem_cons.1 ht with rfl | ht
        · exact ⟨e, h3 a (by simp)⟩
        · exact h3 t (by simp [ht])
      | [], h1, _, _ => simp at h1; omega
    · match hf : forestE r, h1, h2, h3 with
      | a :: b :: ts, h1, h2, h3 =>
        rw [forestE_bin e hf]
        refine ⟨by simp at h1 ⊢; omega, by rw [← h2]; simp [Ex.els], ?_⟩
        intro t ht
        rcases List.mem_cons.1 ht with rfl | ht
        · exact ⟨e, h3 a (by simp), h3 b (by simp)⟩
        · exact h3 t (by simp [ht])
      | [_], h1, _, _ => simp at h1; omega
      | [], h1, _, _ => simp at h1; omega
def okEl (x : El) : Bool := inB x.1 0 5 && inB x.2 0 5 && (x.1 == 1 || x.2 == 0)
def wfE (es : List El) : Bool := decide (1 ≤ es.length ∧ es.length ≤ 40) && es.all okEl && (scanE es 1 == some [])
theorem wfE_ex {es : List El} (h : wfE es = true) : ∃ x : Ex, es = x.els ∧ x.good ∧ es.length ≤ 40 ∧ es.all okEl = true := by
  simp only [wfE, Bool.and_eq_true, decide_eq_true_eq, beq_iff_eq] at h
  obtain ⟨h1, h2, h3⟩ := scanE_forest es 1 h.2
  match hf : forestE es, h1, h2, h3 with
  | [t], _, h2, h3 => exact ⟨t, by rw [← h2]; simp, h3 t (by simp), h.1.1.2, h.1.2⟩
theorem wfE_els {x : Ex} (hg : x.good) (hl : x.els.length ≤ 40) (ho : x.els.all okEl = true) : wfE x.els = true := by
  have e := scanE_els x [] 0 hg
  simp only [List.append_nil] at e
  simp only [wfE, Bool.and_eq_true, decide_eq_true_eq, beq_iff_eq]
  exact ⟨⟨⟨x.els_pos, hl⟩, ho⟩, by rw [e]; rfl⟩
theorem forestE_els : ∀ (e : Ex) (r : List El), e.good → forestE (e.els ++ r) = e :: forestE r
  | .leaf x, r, h => forestE_leaf r h
  | .un x a, r, h => forestE_un h.1 (forestE_els a r h.2)
  | .bin x a b, r, h => by
    have e : (Ex.bin x a b).els ++ r = x :: (a.els ++ (b.els ++ r)) := by simp [Ex.els]
    rw [e]
    exact forestE_bin h.1 (by rw [forestE_els a _ h.2.1, forestE_els b _ h.2.2])
/-- The mark's tag of a kind with operands. -/
def markN (k : Int) : Nat := if k = 2 then 3 else if k = 3 then 4 else if k = 4 then 5 else 6
theorem markN_le (k : Int) : markN k ≤ 6 := by unfold markN; split <;> (try split) <;> (try split) <;> omega
def Ex.code : Ex → Tr
  | .leaf x => .node (tagTr (if x.1 = 0 then 0 else 1)) .nil
  | .un x a => .node (tagTr 2) (.node (.node (tagTr (markN x.1)) .nil) (.node a.code (.node (tagTr 0) .nil)))
  | .bin x a b => .node (tagTr 2) (.node (.node (tagTr (markN x.1)) .nil) (.node a.code b.code))
theorem Ex.code_nodes : ∀ e : Ex, e.code.nodes ≤ 40 * e.els.length
  | .leaf x => by
    have := tag_nodes (if x.1 = 0 then 0 else 1)
    simp only [Ex.code, Tr.nodes, Ex.els, List.length_singleton]; omega
  | .un x a => by
    have h1 := tag_nodes 2
    have h2 := tag_nodes (markN x.1)
    have h3 := tag_nodes 0
    have h4 := a.code_nodes
    simp only [Ex.code, Tr.nodes, Ex.els, List.length_cons]; omega
  | .bin x a b => by
    have h1 := tag_nodes 2
    have h2 := tag_nodes (markN x.1)
    have h4 := a.code_nodes
    have h5 := b.code_nodes
    simp only [Ex.code, Tr.nodes, Ex.els, List.length_cons, List.length_append]; omega
end Go.Proofs.YtadmbphefpfbmaaGreatDoor
/- Reading expressions back from their codes, in plain Lean; what the functions on codes answer. -/
namespace Go.Proofs.YtadmbphefpfbmaaGreatDoor
open Go.RowKit

def isNil1 : List El → Bool
  | [x] => x.1 == 0
  | _ => false
def comb (mk : Tr) : Option (List El) → Option (List El) → Option (List El)
  | some x, some y =>
    if mk.beq (tagTr 3) then some ((2, 0) :: (x ++ y)) else if mk.beq (tagTr 4) then (if isNil1 y then some ((3, 0) :: x) else none)
    else if mk.beq (tagTr 5) then (if isNil1 y then some ((4, 0) :: x) else none) else if mk.beq (tagTr 6) then some ((5, 0) :: (x ++ y)) else none
  | _, _ => none
def backT : Tr → Option (List El)
  | .nil => none
  | .node tag .nil => if tag.beq (tagTr 0) then some [(0, 0)] else if tag.beq (tagTr 1) then some [(1, 0)] else none
  | .node tag (.node (.node mk .nil) (.node a b)) => if tag.beq (tagTr 2) then comb mk (backT a) (backT b) else none
  | _ => none
theorem comb_len {mk : Tr} {x y : Option (List El)} {z : List El} {n m : Nat} (h : comb mk x y = some z) (hx : ∀ u, x = some u → u.length ≤ n) (hy : ∀ u, y = some u → u.length ≤ m) : z.length ≤ n + m + 1 := by
  match x, y, h, hx, hy with
  | some x, some y, h, hx, hy =>
    have h1 := hx x rfl
    have h2 := hy y rfl
    simp only [comb] at h
    split at h
    · cases h; simp; omega
    · split at h
      · split at h
        · cases h; simp; omega
        · cases h
      · split at h
        · split at h
          · cases h; simp; omega
          · cases h
        · split at h
          · cases h; simp; omega
          · cases h
  | none, _, h, _, _ => simp [comb] at h
  | some _, none, h, _, _ => simp [comb] at h
theorem backT_len : ∀ (t : Tr) (z : List El), backT t = some z → z.length ≤ t.nodes
  | .nil, z, h => by simp [backT] at h
  | .node tag .nil, z, h => by
    simp only [backT] at h
    split at h
    · cases h; simp [Tr.nodes]
    · split at h
      · cases h; simp [Tr.nodes]
      · cases h
  | .node tag (.node (.node mk .nil) (.node a b)), z, h => by
    simp only [backT] at h
    split at h
    · have := comb_len h (backT_len a) (backT_len b)
      simp only [Tr.nodes]; omega
    · cases h
  | .node tag (.node .nil _), z, h => by simp [backT] at h
  | .node tag (.node (.node _ (.node _ _)) _), z, h => by simp [backT] at h
  | .node tag (.node (.node _ .nil) .nil), z, h => by simp [backT] at h
/-- The tree of bits. -/
def treeB (bs : List Bool) : Tr := (forest bs).headD .nil
theorem treeB_bits (t : Tr) : treeB t.bits = t := by simp [treeB, forest_bits]
def codeE (es : List El) : Tr := ((forestE es).headD (.leaf (0, 0))).code
theorem codeE_els {e : Ex} (h : e.good) : codeE e.els = e.code := by
  have := forestE_els e [] h
  simp only [List.append_nil] at this
  simp [codeE, this]
def only0 (es : List El) : Bool := es.all fun x => x.2 == 0
def cexL (es : List El) : List Bool := if wfE es = true ∧ only0 es = true ∧ (codeE es).nodes ≤ 2000 then (codeE es).bits else []
def cexC (es : List El) : Int := if wfE es then (if only0 es then (if (codeE es).nodes ≤ 2000 then 0 else 5) else 2) else 1
def dexL (bs : List Bool) : List El := if isTr bs then (match backT (treeB bs) with | some z => if z.length ≤ 40 then z else [] | none => []) else []
def dexC (bs : List Bool) : Int := if isTr bs then (match backT (treeB bs) with | some z => if z.length ≤ 40 then 0 else 5 | none => 9) else 1
end Go.Proofs.YtadmbphefpfbmaaGreatDoor
/- Slices of elements of expressions: how they read; small facts of the scan. -/
namespace Go.Proofs.YtadmbphefpfbmaaGreatDoor
open Go.RowKit
set_option linter.unusedVariables false
set_option linter.unusedSimpArgs false

def eNums : List El → List Int
  | [] => []
  | x :: r => x.1 :: x.2 :: eNums r
theorem eNums_len : ∀ es : List El, (eNums es).length = es.length * 2
  | [] => rfl
  | x :: r => by simp only [eNums, List.length_cons, eNums_len r]; omega
theorem eNums_append : ∀ xs ys : List El, eNums (xs ++ ys) = eNums xs ++ eNums ys
  | [], ys => rfl
  | x :: r, ys => by simp [eNums, eNums_append r ys]
theorem eNums_of : ∀ (n : Nat) (xs : List Int), xs.length = n * 2 → ∃ es : List El, xs = eNums es ∧ es.length = n
  | 0, xs, h => ⟨[], by simpa [eNums] using h, rfl⟩
  | n + 1, a :: b :: r, h => by
    obtain ⟨ps, rfl, hp⟩ := eNums_of n r (by simp at h; omega)
    exact ⟨(a, b) :: ps, rfl, by simp [hp]⟩
  | n + 1, [], h => by simp at h
  | n + 1, [_], h => by simp at h; omega
theorem eNums_get : ∀ {es : List El} {k : Nat} {x : El}, es[k]? = some x → (eNums es)[k * 2]? = some x.1 ∧ (eNums es)[k * 2 + 1]? = some x.2
  | [], k, x, h => by simp at h
  | y :: r, 0, x, h => by
    obtain rfl : y = x := by simpa using h
    exact ⟨rfl, rfl⟩
  | y :: r, k + 1, x, h => by
    have := eNums_get (es := r) (k := k) (x := x) (by simpa using h)
    rw [show (k + 1) * 2 = k * 2 + 1 + 1 by omega]
    exact this
theorem eNums_inj : ∀ {a b : List El}, eNums a = eNums b → a = b
  | [], [], _ => rfl
  | [], _ :: _, h => by simp [eNums] at h
  | _ :: _, [], h => by simp [eNums] at h
  | (a, b) :: r, (c, d) :: s, h => by
    simp only [eNums, List.cons.injEq] at h
    obtain ⟨rfl, rfl, h⟩ := h
    rw [eNums_inj h]
/-- A slice of n elements reads as es. -/
abbrev RdE (w : World) (A : Option Addr) (n : Nat) (es : List El) : Prop := Rd w A (n * 2) (ints (eNums es))
theorem rdE_len {w : World} {A : Option Addr} {n : Nat} {es : List El} (h : RdE w A n es) : es.length = n := by
  have := h.1
  simp [eNums_len] at this
  omega
/-- The two cells of an element. -/
theorem rdE {w : World} {A : Option Addr} {n k : Nat} {es : List El} {x : El} (hr : RdE w A n es) (hx : es[k]? = some x) :
    ∃ b off, A = some ⟨b, off, none⟩ ∧ b < w.heap.size ∧ w.cell? ⟨b, off + k * 2, none⟩ = some (.int .i64 x.1) ∧ w.cell? ⟨b, off + k * 2 + 1, none⟩ = some (.int .i64 x.2) := by
  obtain ⟨h0, h1⟩ := eNums_get hx
  obtain ⟨b, off, e, hb, q0⟩ := hr.at_ (ints_get h0)
  have hpos : 0 < n * 2 := by have h := hr.1; have := (List.getElem?_eq_some_iff.1 h0).1; simp at h; omega
  obtain ⟨b', off', e', _, hc⟩ := hr.2 hpos
  obtain ⟨rfl, rfl⟩ : b = b' ∧ off = off' := by rw [e] at e'; simpa using e'
  exact ⟨b, off, e, hb, q0, by have := hc _ _ (ints_get h1); rwa [← Nat.add_assoc] at this⟩
/-- A part of a slice. -/
theorem rdE_cut {w : World} {b off n i j : Nat} {es : List El} (hr : RdE w (some ⟨b, off, none⟩) n es) (hij : i ≤ j) (hj : j ≤ n) : RdE w (some ⟨b, off + i * 2, none⟩) (j - i) ((es.drop i).take (j - i)) := by
  have hl := rdE_len hr
  refine ⟨by simp [eNums_len]; omega, fun hn => ?_⟩
  obtain ⟨b', off', e, hb, hc⟩ := hr.2 (by omega)
  obtain ⟨rfl, rfl⟩ : b = b' ∧ off = off' := by simpa using e
  refine ⟨b, off + i * 2, rfl, hb, fun k u hu => ?_⟩
  have key : eNums es = eNums (es.take i) ++ (eNums ((es.drop i).take (j - i)) ++ eNums ((es.drop i).drop (j - i))) := by
    rw [← eNums_append, ← eNums_append, List.take_append_drop, List.take_append_drop]
  have hk : k < (ints (eNums ((es.drop i).take (j - i)))).length := (List.getElem?_eq_some_iff.1 hu).1
  have h1 : (ints (eNums es))[i * 2 + k]? = some u := by
    have hti : (eNums (es.take i)).length = i * 2 := by rw [eNums_len, List.length_take]; omega
    rw [key]
    simp only [ints, List.map_append] at hu hk ⊢
    rw [List.getElem?_append_right (by simp [hti]), List.length_map, hti, Nat.add_sub_cancel_left, List.getElem?_append_left (by simpa using hk)]
    exact hu
  have := hc _ _ h1
  rwa [← Nat.add_assoc] at this
theorem scanE_len : ∀ (es : List El) (n : Nat) (r : List El), scanE es n = some r → r.length ≤ es.length
  | es, 0, r, h => by
    have : es = r := by cases es <;> simpa [scanE] using h
    rw [this]; exact Nat.le_refl _
  | [], n + 1, r, h => by simp [scanE] at h
  | x :: es, n + 1, r, h => by
    have := scanE_len es (n + fol x) r h
    simp only [List.length_cons]
    omega
theorem scanE_step {es : List El} {k m : Nat} {x : El} (h : es[k]? = some x) : scanE (es.drop k) (m + 1) = scanE (es.drop (k + 1)) (m + fol x) := by rw [drop_get h]; rfl
/-- The place behind the expression that begins at k, or -1. -/
def endE (es : List El) (k : Nat) : Int := match scanE (es.drop k) 1 with
  | some r => ((es.length - r.length : Nat) : Int)
  | none => -1
theorem endE_some {es : List El} {k j : Nat} (h : scanE (es.drop k) 1 = some (es.drop j)) (hj : j ≤ es.length) : endE es k = j := by
  simp only [endE, h, List.length_drop]
  omega
theorem endE_none {es : List El} {k : Nat} (h : scanE (es.drop k) 1 = none) : endE es k = -1 := by simp only [endE, h]
theorem endE_whole (es : List El) : (scanE es 1 == some []) = (endE es 0 == (es.length : Int)) := by
  simp only [endE, List.drop_zero]
  cases h : scanE es 1 with
  | none =>
    simp
  | some r =>
    have hl := scanE_len es 1 r h
    cases r with
    | nil => simp
    | cons x xs =>
      simp at hl ⊢
      omega
end Go.Proofs.YtadmbphefpfbmaaGreatDoor
/- Expressions: the walks of both sides' tests. -/
namespace Go.Proofs.YtadmbphefpfbmaaGreatDoor
open Go.RowKit
set_option linter.unusedVariables false
set_option linter.unusedSimpArgs false

set_option maxHeartbeats 800000 in
theorem exprFollow_any (w : World) (k v : Int) : Calls Tryz.prog 144 #[.agg #[.int .i64 k, .int .i64 v]] w fun e w' => e = .returned (.int .i64 (fol (k, v))) ∧ Below w.heap.size w w' := by
  by_cases h3 : k = 3
  · subst h3
    go_enter Tryz.func144, Tryz.ntmps144
    go_wp2_with fail
    go_ret
    exact ⟨rfl, below_new _ _⟩
  by_cases h4 : k = 4
  · subst h4
    go_enter Tryz.func144, Tryz.ntmps144
    go_wp2_with fail
    go_ret
    exact ⟨rfl, below_new _ _⟩
  by_cases h2 : k = 2
  · subst h2
    go_enter Tryz.func144, Tryz.ntmps144
    go_wp2_with fail
    go_ret
    exact ⟨rfl, below_new _ _⟩
  by_cases h5 : k = 5
  · subst h5
    go_enter Tryz.func144, Tryz.ntmps144
    go_wp2_with fail
    go_ret
    exact ⟨rfl, below_new _ _⟩
  have HF : Hid (fol (k, v) = 0) := Lib.hid (by simp [fol, h2, h3, h4, h5])
  have b2 : (k == 2) = false := by simpa using h2
  have b3 : (k == 3) = false := by simpa using h3
  have b4 : (k == 4) = false := by simpa using h4
  have b5 : (k == 5) = false := by simpa using h5
  clear h2 h3 h4 h5
  go_enter Tryz.func144, Tryz.ntmps144
  go_wp2_with fail
  go_ret
  exact ⟨by rw [HF.out]; rfl, below_new _ _⟩
set_option maxHeartbeats 800000 in
theorem l22Many_any (w : World) (k v : Int) : Calls Tryz.prog 123 #[.int .i64 k] w fun e w' => e = .returned (.int .i64 (fol (k, v))) ∧ w = w' := by
  by_cases h3 : k = 3
  · subst h3
    go_enter Tryz.func123, Tryz.ntmps123
    go_wp2_with fail
    go_ret
    exact ⟨rfl, rfl⟩
  by_cases h4 : k = 4
  · subst h4
    go_enter Tryz.func123, Tryz.ntmps123
    go_wp2_with fail
    go_ret
    exact ⟨rfl, rfl⟩
  by_cases h2 : k = 2
  · subst h2
    go_enter Tryz.func123, Tryz.ntmps123
    go_wp2_with fail
    go_ret
    exact ⟨rfl, rfl⟩
  by_cases h5 : k = 5
  · subst h5
    go_enter Tryz.func123, Tryz.ntmps123
    go_wp2_with fail
    go_ret
    exact ⟨rfl, rfl⟩
  have HF : Hid (fol (k, v) = 0) := Lib.hid (by simp [fol, h2, h3, h4, h5])
  have b2 : (k == 2) = false := by simpa using h2
  have b3 : (k == 3) = false := by simpa using h3
  have b4 : (k == 4) = false := by simpa using h4
  have b5 : (k == 5) = false := by simpa using h5
  clear h2 h3 h4 h5
  go_enter Tryz.func123, Tryz.ntmps123
  go_wp2_with fail
  go_ret
  exact ⟨by rw [HF.out]; rfl, rfl⟩
set_option maxHeartbeats 400000 in
theorem isWhileVariable_any (w : World) (v : Int) : Calls Tryz.prog 176 #[.int .i64 v] w fun e w' => e = .returned (.bool (inB v 0 5)) ∧ w = w' := by
  go_enter Tryz.func176, Tryz.ntmps176
  go_wp2_with (go_at_call 46; refine (within_any _ _ _ _).mono ?_; rintro e w' ⟨rfl, rfl⟩)
  go_ret
  exact ⟨rfl, rfl⟩
set_option maxHeartbeats 400000 in
theorem sizeE_any (w : World) (A : Option Addr) (n c : Nat) : Calls Tryz.prog 212 #[.slice A n c] w fun e w' => e = .returned (.int .i64 n) ∧ w = w' := by
  go_enter Tryz.func212, Tryz.ntmps212
  go_wp2_with fail
  go_ret
  exact ⟨rfl, rfl⟩
set_option maxHeartbeats 1600000 in
theorem termEndE_any (w : World) (A : Option Addr) (n c : Nat) (es : List El) (hr : RdE w A n es) (hn : n ≤ 1000000000) (k0 : Nat) (hk0 : k0 ≤ n) :
    Calls Tryz.prog 145 #[.slice A n c, .int .i64 k0, .func (.func 144) #[] #[]] w (RetV w (.int .i64 (endE es k0))) := by
  have HL : Hid (es.length = n) := Lib.hid (rdE_len hr)
  go_enter Tryz.func145, Tryz.ntmps145
  go_wp2_with fail
  go_loopw [1, 7] (fun q o wr => ∃ k m : Nat, k ≤ n ∧ m ≤ 2 * k + 1 ∧ q = .int .i64 k ∧ o = .int .i64 m ∧ Hid (scanE (es.drop k0) 1 = scanE (es.drop k) m) ∧ Below w.heap.size w wr) (fun q _ _ => n + 1 - (intOf q).toNat)
  case atStart => exact ⟨k0, 1, hk0, by omega, rfl, rfl, Lib.hid rfl, Below.refl _ _⟩
  case round =>
    obtain ⟨k, m, hk, hm, rfl, rfl, HS, hb⟩ := hrel
    rcases m with _ | m
    · have HE := Lib.hid (endE_some (es := es) (k := k0) (j := k) (by rw [HS.out]; cases es.drop k <;> rfl) (by rw [HL.out]; exact hk))
      go_wp2_with fail
      go_ret
      exact ⟨by rw [HE.out]; rfl, hb⟩
    · have hm1 : (0 : Int) < (m : Int) + 1 := by omega
      by_cases hkn : k = n
      · subst hkn
        have HE := Lib.hid (endE_none (es := es) (k := k0) (by rw [HS.out, List.drop_of_length_le (by rw [HL.out]; omega)]; rfl))
        go_wp2_with fail
        go_ret
        exact ⟨by rw [HE.out]; rfl, hb⟩
      · have hlt : k < n := by omega
        obtain ⟨x, hx⟩ := get_some (xs := es) (k := k) (by rw [HL.out]; exact hlt)
        obtain ⟨blk, off, rfl, hbs, q0, q1⟩ := rdE hr hx
        replace q0 := (hb.cell (p := ⟨blk, off + k * 2, none⟩) hbs).trans q0
        replace q1 := (hb.cell (p := ⟨blk, off + k * 2 + 1, none⟩) hbs).trans q1
        have HG := Lib.hid (scanE_step (m := m) hx)
        have hf := fol_le x
        obtain ⟨x1, x2⟩ := x
        clear hx hkn
        generalize hfx : fol (x1, x2) = f at HG hf
        have HFX := Lib.hid hfx
        clear hfx
        go_wp2_with (go_at_call 144; go_must (refine (exprFollow_any _ _ _).mono ?_; rintro e w2 ⟨rfl, hb2⟩; rw [HFX.out]))
        go_roundw
        case rel => exact ⟨k + 1, m + f, by omega, by omega, by go_num, by go_num, Lib.hid (by rw [HS.out, HG.out]), hb.trans (hb2.mono hb.size)⟩
        case measure => simp [intOf]; omega
end Go.Proofs.YtadmbphefpfbmaaGreatDoor
/- Expressions: whether they are valid, and whether no other variable than 0 occurs. Partly written by mk_exv.py. -/
namespace Go.Proofs.YtadmbphefpfbmaaGreatDoor
open Go.RowKit
set_option linter.unusedVariables false
set_option linter.unusedSimpArgs false
theorem all_step {α : Type} {p : α → Bool} {xs : List α} {k : Nat} {x : α} (h : (xs.take k).all p = true) (hx : xs[k]? = some x) (hp : p x = true) : (xs.take (k + 1)).all p = true := by
  rw [List.take_add_one, hx]
  simp only [List.all_append, Bool.and_eq_true]
  exact ⟨h, by simp [hp]⟩
theorem all_out {α : Type} {p : α → Bool} {xs : List α} {k : Nat} {x : α} (hx : xs[k]? = some x) (hp : p x = false) : xs.all p = false := by
  obtain ⟨hk, rfl⟩ := List.getElem?_eq_some_iff.1 hx
  simp only [List.all_eq_false]
  exact ⟨_, List.getElem_mem hk, by simp [hp]⟩
/-- The index that a search returns: not negative just where something was found. -/
def FoundN (w : World) (bad : Bool) (e : Ending) (w' : World) : Prop := ∃ i : Int, e = .returned (.int .i64 i) ∧ decide (0 ≤ i) = bad ∧ Below w.heap.size w w'

theorem wfE_bad {es : List El} {k : Nat} {x : El} (hx : es[k]? = some x) (h : okEl x = false) : wfE es = false := by
  simp [wfE, all_out hx h]
theorem wfE_len {es : List El} (h : ¬ (1 ≤ es.length ∧ es.length ≤ 40)) : wfE es = false := by simp [wfE, h]
theorem wfE_early {es : List El} {k : Nat} (hk : k < es.length) (h : scanE es 1 = scanE (es.drop k) 0) : wfE es = false := by
  have h2 : scanE (es.drop k) 0 = some (es.drop k) := by cases es.drop k <;> rfl
  have h3 : es.drop k ≠ [] := by intro e; have := congrArg List.length e; simp at this; omega
  simp [wfE, h, h2, h3]
theorem wfE_end {es : List El} {o : Nat} (hl : 1 ≤ es.length ∧ es.length ≤ 40) (hall : es.all okEl = true) (h : scanE es 1 = scanE [] o) : wfE es = decide (o = 0) := by
  rcases o with _ | o
  · simp [wfE, hl, hall, h, scanE]
  · simp [wfE, hl, hall, h, scanE]
theorem okEl_kind {k v : Int} (h : inB k 0 5 = false) : okEl (k, v) = false := by simp [okEl, h]
theorem okEl_var {v : Int} (h : inB v 0 5 = false) : okEl (1, v) = false := by simp [okEl, h]
theorem okEl_one {v : Int} (h : inB v 0 5 = true) : okEl (1, v) = true := by simp only [okEl, h]; rfl
theorem okEl_oth {k v : Int} (h1 : k ≠ 1) (h : v ≠ 0) : okEl (k, v) = false := by simp [okEl, h1, h]
theorem okEl_zero {k : Int} (h : inB k 0 5 = true) : okEl (k, 0) = true := by simp [okEl, h]; decide
theorem scanE_step' {es : List El} {k o : Nat} {x : El} (h : es[k]? = some x) (ho : 0 < o) : scanE (es.drop k) o = scanE (es.drop (k + 1)) (o - 1 + fol x) := by
  obtain ⟨m, rfl⟩ : ∃ m, o = m + 1 := ⟨o - 1, by omega⟩
  exact scanE_step h
set_option maxHeartbeats 4000000 in
set_option maxRecDepth 100000 in
theorem l22Expr_any (w : World) (A : Option Addr) (n c : Nat) (es : List El) (hr : RdE w A n es) (hn : n ≤ 1000000000) : Calls Tryz.prog 83 #[.slice A n c] w fun e w' => e = .returned (.bool (wfE es)) ∧ w = w' := by
  have HL : Hid (es.length = n) := Lib.hid (rdE_len hr)
  by_cases h0 : 1 ≤ n
  · by_cases h40 : n ≤ 40
    · have a1 : ¬ (n : Int) < 1 := by omega
      have a2 : ¬ (40 : Int) < (n : Int) := by omega
      go_enter Tryz.func83, Tryz.ntmps83
      go_wp2_with fail
      go_loop [3, 4] (fun p q => ∃ k o : Nat, k ≤ n ∧ o ≤ 2 * k + 1 ∧ q = .int .i64 k ∧ p = .int .i64 o ∧ Hid (scanE es 1 = scanE (es.drop k) o) ∧ Hid ((es.take k).all okEl = true)) (fun _ q => n - (intOf q).toNat)
      case atStart => exact ⟨0, 1, by omega, by omega, rfl, rfl, Lib.hid (by simp), Lib.hid (by simp)⟩
      case round =>
        obtain ⟨k, o, hk, ho, rfl, rfl, HS, HA⟩ := hrel
        by_cases hlt : k < n
        · have hlt' : (k : Int) < (n : Int) := by omega
          obtain ⟨x, hx⟩ := get_some (xs := es) (k := k) (by rw [HL.out]; exact hlt)
          obtain ⟨b, off, rfl, hbs, q0, q1⟩ := rdE hr hx
          rcases Nat.eq_zero_or_pos o with rfl | hop
          · have HW := Lib.hid (wfE_early (by rw [HL.out]; exact hlt) HS.out)
            clear hx
            go_wp2_with fail
            go_ret
            exact ⟨by rw [HW.out]; rfl, rfl⟩
          · have ho1 : ((o : Int) == 0) = false := by simp; omega
            have HX := Lib.hid hx
            have HG := Lib.hid (scanE_step' hx hop)
            have hf := fol_le x
            obtain ⟨x1, x2⟩ := x
            clear hx
            cases hk5 : inB x1 0 5 with
            | false =>
              have HI := Lib.hid hk5
              have HW := Lib.hid (wfE_bad HX.out (okEl_kind hk5))
              clear hk5
              go_wp2_with (go_at_call 42; go_must (refine (l00In_any _ _ _ _).mono ?_; rw [HI.out]; rintro e w' ⟨rfl, rfl⟩))
              go_ret
              exact ⟨by rw [HW.out]; rfl, rfl⟩
            | true =>
              have HI := Lib.hid hk5
              clear hk5
              by_cases h1 : x1 = 1
              · subst h1
                cases hv5 : inB x2 0 5 with
                | false =>
                  have HV := Lib.hid hv5
                  have HW := Lib.hid (wfE_bad HX.out (okEl_var hv5))
                  clear hv5
                  go_wp2_with (go_at_call 42; go_must (refine (l00In_any _ _ _ _).mono ?_; first | (rw [HI.out]; rintro e w' ⟨rfl, rfl⟩) | (rw [HV.out]; rintro e w' ⟨rfl, rfl⟩)))
                  go_ret
                  exact ⟨by rw [HW.out]; rfl, rfl⟩
                | true =>
                  have HV := Lib.hid hv5
                  have HO := Lib.hid (okEl_one hv5)
                  have HF : Hid (fol (1, x2) = 0) := Lib.hid rfl
                  clear hv5
                  go_wp2_with (first
                    | (go_at_call 42; go_must (refine (l00In_any _ _ _ _).mono ?_; first | (rw [HI.out]; rintro e w' ⟨rfl, rfl⟩) | (rw [HV.out]; rintro e w' ⟨rfl, rfl⟩)))
                    | (go_at_call 123; go_must (refine (l22Many_any _ _ x2).mono ?_; rw [HF.out]; rintro e w' ⟨rfl, rfl⟩)))
                  go_round
                  case rel => exact ⟨k + 1, o - 1, by omega, by omega, by go_num, by rw [show ((o : Int) + -1) = ((o - 1 : Nat) : Int) by omega], Lib.hid (by rw [HS.out, HG.out, HF.out]; rfl), Lib.hid (all_step HA.out HX.out HO.out)⟩
                  case measure => simp [intOf]; omega
              · have b1 : (x1 == 1) = false := by simpa using h1
                have b1' : (x1 != 1) = true := by simpa using h1
                have b1'' : decide (x1 = 1) = false := by simpa using h1
                by_cases h2 : x2 = 0
                · subst h2
                  have HO := Lib.hid (okEl_zero HI.out)
                  generalize hfx : fol (x1, 0) = f at HG hf
                  have HF := Lib.hid hfx
                  clear hfx
                  go_wp2_with (first
                    | (go_at_call 42; go_must (refine (l00In_any _ _ _ _).mono ?_; rw [HI.out]; rintro e w' ⟨rfl, rfl⟩))
                    | (go_at_call 123; go_must (refine (l22Many_any _ _ 0).mono ?_; rw [HF.out]; rintro e w' ⟨rfl, rfl⟩)))
                  go_round
                  case rel => exact ⟨k + 1, o - 1 + f, by omega, by omega, by go_num, by rw [show ((o : Int) + ((f : Int) - 1)) = ((o - 1 + f : Nat) : Int) by omega], Lib.hid (by rw [HS.out, HG.out]), Lib.hid (all_step HA.out HX.out HO.out)⟩
                  case measure => simp [intOf]; omega
                · have b2 : (x2 == 0) = false := by simpa using h2
                  have b2' : (x2 != 0) = true := by simpa using h2
                  have HW := Lib.hid (wfE_bad HX.out (okEl_oth h1 h2))
                  go_wp2_with (go_at_call 42; go_must (refine (l00In_any _ _ _ _).mono ?_; rw [HI.out]; rintro e w' ⟨rfl, rfl⟩))
                  go_ret
                  exact ⟨by rw [HW.out]; rfl, rfl⟩
        · obtain rfl : k = n := by omega
          have HW := Lib.hid (wfE_end (es := es) (o := o) (by rw [HL.out]; omega) (by have := HA.out; rwa [List.take_of_length_le (by rw [HL.out]; omega)] at this) (by have := HS.out; rwa [List.drop_of_length_le (by rw [HL.out]; omega)] at this))
          rcases Nat.eq_zero_or_pos o with rfl | hop
          · go_wp2_with fail
            go_ret
            exact ⟨by rw [HW.out]; rfl, rfl⟩
          · have ho1 : ((o : Int) == 0) = false := by simp; omega
            have hd : decide (o = 0) = false := by simp; omega
            rw [hd] at HW
            clear hd
            go_wp2_with fail
            go_ret
            exact ⟨by rw [HW.out]; rfl, rfl⟩
    · have a2 : (40 : Int) < (n : Int) := by omega
      have HW := Lib.hid (wfE_len (es := es) (by rw [HL.out]; omega))
      go_enter Tryz.func83, Tryz.ntmps83
      go_wp2_with fail
      go_ret
      exact ⟨by rw [HW.out]; rfl, rfl⟩
  · have a1 : (n : Int) < 1 := by omega
    have HW := Lib.hid (wfE_len (es := es) (by rw [HL.out]; omega))
    go_enter Tryz.func83, Tryz.ntmps83
    go_wp2_with fail
    go_ret
    exact ⟨by rw [HW.out]; rfl, rfl⟩
set_option maxHeartbeats 800000 in
theorem l23Only_any (w : World) (A : Option Addr) (n c : Nat) (es : List El) (hr : RdE w A n es) (hn : n ≤ 1000000000) : Calls Tryz.prog 229 #[.slice A n c] w fun e w' => e = .returned (.bool (only0 es)) ∧ w = w' := by
  have HL : Hid (es.length = n) := Lib.hid (rdE_len hr)
  go_enter Tryz.func229, Tryz.ntmps229
  go_wp2_with fail
  go_loop [3] (fun q => ∃ k : Nat, k ≤ n ∧ q = .int .i64 k ∧ Hid ((es.take k).all (fun x => x.2 == 0) = true)) (fun q => n - (intOf q).toNat)
  case atStart => exact ⟨0, by omega, rfl, Lib.hid (by simp)⟩
  case round =>
    obtain ⟨k, hk, rfl, HA⟩ := hrel
    by_cases hlt : k < n
    · obtain ⟨x, hx⟩ := get_some (xs := es) (k := k) (by rw [HL.out]; exact hlt)
      obtain ⟨b, off, rfl, hbs, q0, q1⟩ := rdE hr hx
      have HX := Lib.hid hx
      clear hx
      obtain ⟨x1, x2⟩ := x
      by_cases h2 : x2 = 0
      · subst h2
        go_wp2_with fail
        go_round
        case rel => exact ⟨k + 1, by omega, by go_num, Lib.hid (all_step HA.out HX.out rfl)⟩
        case measure => simp [intOf]; omega
      · have b2 : (x2 == 0) = false := by simpa using h2
        have HW : Hid (only0 es = false) := Lib.hid (by show es.all (fun x => x.2 == 0) = false; exact all_out HX.out b2)
        clear h2
        go_wp2_with fail
        go_ret
        exact ⟨by rw [HW.out]; rfl, rfl⟩
    · have HW : Hid (only0 es = true) := Lib.hid (by have := HA.out; rwa [List.take_of_length_le (by rw [HL.out]; omega)] at this)
      go_wp2_with fail
      go_ret
      exact ⟨by rw [HW.out]; rfl, rfl⟩
set_option maxHeartbeats 400000 in
theorem onlyZero1_any (w : World) (k v : Int) : Calls Tryz.prog 198 #[.agg #[.int .i64 k, .int .i64 v]] w fun e w' => e = .returned (.bool (!(fun x : El => x.2 == 0) (k, v))) ∧ Below w.heap.size w w' := by
  go_enter Tryz.func198, Tryz.ntmps198
  go_wp2_with fail
  go_ret
  exact ⟨by cases h : (v == 0) <;> simp_all, below_new _ _⟩
def isZ (x : El) : Bool := x.2 == 0
theorem onlyZero1_x (w : World) (x : El) : Calls Tryz.prog 198 #[.agg #[.int .i64 x.1, .int .i64 x.2]] w fun e w' => e = .returned (.bool (!isZ x)) ∧ Below w.heap.size w w' := onlyZero1_any w x.1 x.2
set_option maxHeartbeats 1000000 in
theorem indexFuncOZ (w : World) (A : Option Addr) (n c : Nat) (ps : List El) (hr : RdE w A n ps) (hn : n ≤ 1000000000) :
    Calls Tryz.prog 233 #[.slice A n c, .func (.func 198) #[] #[]] w (FoundN w (!ps.all isZ)) := by
  have HL : Hid (ps.length = n) := Lib.hid (rdE_len hr)
  go_enter Tryz.func233, Tryz.ntmps233
  go_wp2_with fail
  go_loopw [8] (fun q wr => ∃ k : Nat, k ≤ n ∧ q = .int .i64 k ∧ Hid ((ps.take k).all isZ = true) ∧ Below w.heap.size w wr) (fun q _ => n - (intOf q).toNat)
  case atStart => exact ⟨0, Nat.zero_le _, rfl, Lib.hid (by simp), Below.refl _ _⟩
  case round =>
    obtain ⟨k, hk, rfl, hall, hb⟩ := hrel
    by_cases h1 : k < n
    · obtain ⟨x, hx⟩ := get_some (xs := ps) (k := k) (by rw [HL.out]; omega)
      obtain ⟨b, off, rfl, hbs, q0, q1⟩ := rdE hr hx
      replace q0 := (hb.cell (p := ⟨b, off + k * 2, none⟩) hbs).trans q0
      replace q1 := (hb.cell (p := ⟨b, off + k * 2 + 1, none⟩) hbs).trans q1
      have HX := Lib.hid hx
      clear hx
      by_cases hin : isZ x = true
      · go_wp2_with (go_at_call 198; refine (onlyZero1_x _ x).mono ?_; rintro e w' ⟨rfl, hb2⟩)
        go_roundw
        case rel => exact ⟨k + 1, by omega, by go_num, Lib.hid (all_step hall.out HX.out hin), hb.trans (hb2.mono hb.size)⟩
        case measure => simp [intOf]; omega
      · have hin' : isZ x = false := by simpa using hin
        clear hin
        go_wp2_with (go_at_call 198; refine (onlyZero1_x _ x).mono ?_; rintro e w' ⟨rfl, hb2⟩)
        go_ret
        exact ⟨k, rfl, by rw [all_out HX.out hin']; simp, hb.trans (hb2.mono hb.size)⟩
    · go_wp2_with fail
      go_ret
      have h := hall.out
      rw [List.take_of_length_le (by rw [HL.out]; omega)] at h
      exact ⟨-1, rfl, by rw [h]; rfl, hb⟩
set_option maxHeartbeats 400000 in
theorem containsFuncOZ (w : World) (A : Option Addr) (n c : Nat) (ps : List El) (hr : RdE w A n ps) (hn : n ≤ 1000000000) :
    Calls Tryz.prog 197 #[.slice A n c, .func (.func 198) #[] #[]] w (RetV w (.bool (!ps.all isZ))) := by
  go_enter Tryz.func197, Tryz.ntmps197
  go_wp2_with fail
  refine (indexFuncOZ _ _ _ _ _ hr hn).mono ?_
  rintro e w' ⟨i, rfl, hi, hb⟩
  have HI := Lib.hid hi; clear hi
  go_wp2_with fail
  go_ret
  exact ⟨by rw [← HI.out]; rfl, hb⟩

set_option maxHeartbeats 400000 in
theorem onlyZero_any (w : World) (A : Option Addr) (n c : Nat) (es : List El) (hr : RdE w A n es) (hn : n ≤ 1000000000) : Calls Tryz.prog 163 #[.slice A n c] w (RetV w (.bool (only0 es))) := by
  go_enter Tryz.func163, Tryz.ntmps163
  go_wp2_with fail
  refine (containsFuncOZ _ _ _ _ _ hr hn).mono ?_
  rintro e w' ⟨rfl, hb⟩
  go_wp2_with fail
  go_ret
  exact ⟨by simp [only0]; rfl, hb⟩
end Go.Proofs.YtadmbphefpfbmaaGreatDoor
/- ValidExpr: the program's function. -/
namespace Go.Proofs.YtadmbphefpfbmaaGreatDoor
open Go.RowKit
set_option linter.unusedVariables false
set_option linter.unusedSimpArgs false
theorem wfE_scan {es : List El} (hl : 1 ≤ es.length ∧ es.length ≤ 40) (hall : es.all okEl = true) : wfE es = (endE es 0 == (es.length : Int)) := by
  simp only [wfE, hl, hall, endE_whole, and_self, decide_true, Bool.true_and]
set_option maxHeartbeats 4000000 in
set_option maxRecDepth 100000 in
theorem ValidExpr_any (w : World) (A : Option Addr) (n c : Nat) (es : List El) (hr : RdE w A n es) (hn : n ≤ 1000000000) : Calls Tryz.prog 175 #[.slice A n c] w (RetV w (.bool (wfE es))) := by
  have HL : Hid (es.length = n) := Lib.hid (rdE_len hr)
  cases h40 : inB n 1 40 with
  | false =>
    have HI := Lib.hid h40
    have HW := Lib.hid (wfE_len (es := es) (by have := inB_false.1 h40; rw [HL.out]; omega))
    clear h40
    go_enter Tryz.func175, Tryz.ntmps175
    go_wp2_with (first
      | (go_at_call 212; go_must (refine (sizeE_any _ _ _ _).mono ?_; rintro e w' ⟨rfl, rfl⟩))
      | (go_at_call 46; go_must (refine (within_any _ _ _ _).mono ?_; rw [HI.out]; rintro e w' ⟨rfl, rfl⟩)))
    go_ret
    exact ⟨by rw [HW.out]; rfl, Below.refl _ _⟩
  | true =>
    have HI := Lib.hid h40
    have HI2 := Lib.hid (inB_true.1 h40)
    clear h40
    go_enter Tryz.func175, Tryz.ntmps175
    go_wp2_with (first
      | (go_at_call 212; go_must (refine (sizeE_any _ _ _ _).mono ?_; rintro e w' ⟨rfl, rfl⟩))
      | (go_at_call 46; go_must (refine (within_any _ _ _ _).mono ?_; rw [HI.out]; rintro e w' ⟨rfl, rfl⟩)))
    go_loopw [11] (fun q wr => ∃ k : Nat, k ≤ n ∧ q = .int .i64 k ∧ Hid ((es.take k).all okEl = true) ∧ Below w.heap.size w wr) (fun q _ => n - (intOf q).toNat)
    case atStart => exact ⟨0, by omega, rfl, Lib.hid (by simp), Below.refl _ _⟩
    case round =>
      obtain ⟨k, hk, rfl, HA, hb⟩ := hrel
      by_cases hlt : k < n
      · have hlt' : (k : Int) < (n : Int) := by omega
        obtain ⟨x, hx⟩ := get_some (xs := es) (k := k) (by rw [HL.out]; exact hlt)
        obtain ⟨b, off, rfl, hbs, q0, q1⟩ := rdE hr hx
        replace q0 := (hb.cell (p := ⟨b, off + k * 2, none⟩) hbs).trans q0
        replace q1 := (hb.cell (p := ⟨b, off + k * 2 + 1, none⟩) hbs).trans q1
        have HX := Lib.hid hx
        obtain ⟨x1, x2⟩ := x
        clear hx
        simp only at q0 q1
        have hB1 := hb.trans ((below_new wr (.cells #[.int .i64 x1, .int .i64 x2] 110)).mono hb.size)
        have hz := box_new wr #[.int .i64 x1, .int .i64 x2] 110
        have z0 := blk_cell hz 0 rfl
        have z1 := blk_cell hz 1 rfl
        clear hz
        cases hk5 : inB x1 0 5 with
        | false =>
          have HK := Lib.hid hk5
          have HW := Lib.hid (wfE_bad HX.out (okEl_kind hk5))
          clear hk5
          go_wp2_with (go_at_call 46; go_must (refine (within_any _ _ _ _).mono ?_; rw [HK.out]; rintro e w' ⟨rfl, rfl⟩))
          go_ret
          exact ⟨by rw [HW.out]; rfl, hB1⟩
        | true =>
          have HK := Lib.hid hk5
          clear hk5
          cases hv5 : inB x2 0 5 with
          | false =>
            have HV := Lib.hid hv5
            have HW := Lib.hid (wfE_bad HX.out (show okEl (x1, x2) = false by simp [okEl, hv5]))
            clear hv5
            go_wp2_with (first
              | (go_at_call 46; go_must (refine (within_any _ _ _ _).mono ?_; rw [HK.out]; rintro e w' ⟨rfl, rfl⟩))
              | (go_at_call 176; go_must (refine (isWhileVariable_any _ _).mono ?_; rw [HV.out]; rintro e w' ⟨rfl, rfl⟩)))
            go_ret
            exact ⟨by rw [HW.out]; rfl, hB1⟩
          | true =>
            have HV := Lib.hid hv5
            clear hv5
            by_cases h1 : x1 = 1
            · subst h1
              have HO := Lib.hid (okEl_one HV.out)
              go_wp2_with (first
                | (go_at_call 46; go_must (refine (within_any _ _ _ _).mono ?_; rw [HK.out]; rintro e w' ⟨rfl, rfl⟩))
                | (go_at_call 176; go_must (refine (isWhileVariable_any _ _).mono ?_; rw [HV.out]; rintro e w' ⟨rfl, rfl⟩)))
              go_roundw
              case rel => exact ⟨k + 1, by omega, by go_num, Lib.hid (all_step HA.out HX.out HO.out), hB1⟩
              case measure => simp [intOf]; omega
            · have b1 : (x1 == 1) = false := by simpa using h1
              have b1' : (x1 != 1) = true := by simpa using h1
              have b1'' : decide (x1 = 1) = false := by simpa using h1
              by_cases h2 : x2 = 0
              · subst h2
                have HO := Lib.hid (okEl_zero HK.out)
                go_wp2_with (first
                  | (go_at_call 46; go_must (refine (within_any _ _ _ _).mono ?_; rw [HK.out]; rintro e w' ⟨rfl, rfl⟩))
                  | (go_at_call 176; go_must (refine (isWhileVariable_any _ _).mono ?_; rw [HV.out]; rintro e w' ⟨rfl, rfl⟩)))
                go_roundw
                case rel => exact ⟨k + 1, by omega, by go_num, Lib.hid (all_step HA.out HX.out HO.out), hB1⟩
                case measure => simp [intOf]; omega
              · have b2 : (x2 == 0) = false := by simpa using h2
                have b2' : (x2 != 0) = true := by simpa using h2
                have HW := Lib.hid (wfE_bad HX.out (okEl_oth h1 h2))
                go_wp2_with (first
                  | (go_at_call 46; go_must (refine (within_any _ _ _ _).mono ?_; rw [HK.out]; rintro e w' ⟨rfl, rfl⟩))
                  | (go_at_call 176; go_must (refine (isWhileVariable_any _ _).mono ?_; rw [HV.out]; rintro e w' ⟨rfl, rfl⟩)))
                go_ret
                exact ⟨by rw [HW.out]; rfl, hB1⟩
      · obtain rfl : k = n := by omega
        have HW := Lib.hid (wfE_scan (es := es) (by rw [HL.out]; have := HI2.out; omega) (by have := HA.out; rwa [List.take_of_length_le (by rw [HL.out]; omega)] at this))
        have hr' := hr.below hb (Nat.le_refl _)
        go_wp2_with fail
        refine (termEndE_any _ _ _ _ _ hr' hn 0 (by omega)).mono ?_
        rintro e w2 ⟨rfl, hb2⟩
        generalize endE es 0 = q at HW
        go_wp2_with fail
        go_ret
        exact ⟨by rw [HW.out, HL.out]; rfl, hb.trans (hb2.mono hb.size)⟩
end Go.Proofs.YtadmbphefpfbmaaGreatDoor
/- The code of an expression: the program's operands and codeOfExpr. -/
namespace Go.Proofs.YtadmbphefpfbmaaGreatDoor
open Go.RowKit
set_option linter.unusedVariables false
set_option linter.unusedSimpArgs false
theorem IsT.up {w w' : World} {lo : Nat} {v : Value} {t : Tr} (h : IsT w lo w.heap.size v t) (hb : Below w.heap.size w w') : IsT w' lo w'.heap.size v t := (h.below hb (Nat.le_refl _)).wide (Nat.le_refl _) hb.size
def Ex.ops : Ex → List Ex
  | .leaf _ => []
  | .un _ a => [a]
  | .bin _ a b => [a, b]
theorem Ex.els_ops : ∀ x : Ex, x.els = x.top :: x.ops.flatMap Ex.els
  | .leaf _ => rfl
  | .un _ a => by simp [Ex.els, Ex.top, Ex.ops]
  | .bin _ a b => by simp [Ex.els, Ex.top, Ex.ops]
theorem Ex.ops_len : ∀ x : Ex, x.good → x.ops.length = fol x.top
  | .leaf _, h => (show fol _ = 0 from h).symm
  | .un _ a, h => h.1.symm
  | .bin _ a b, h => h.1.symm
theorem Ex.ops_good : ∀ x : Ex, x.good → ∀ y ∈ x.ops, y.good
  | .leaf _, h, y, hy => by simp [Ex.ops] at hy
  | .un _ a, h, y, hy => by simp [Ex.ops] at hy; subst hy; exact h.2
  | .bin _ a b, h, y, hy => by
    simp [Ex.ops] at hy
    rcases hy with rfl | rfl
    · exact h.2.1
    · exact h.2.2
def opPos (x : Ex) (i : Nat) : Nat := 1 + ((x.ops.take i).flatMap Ex.els).length
theorem opPos_drop (x : Ex) (i : Nat) : x.els.drop (opPos x i) = (x.ops.drop i).flatMap Ex.els := by
  rw [x.els_ops, opPos, Nat.add_comm, List.drop_succ_cons]
  conv => lhs; arg 2; rw [← List.take_append_drop i x.ops]
  rw [List.flatMap_append, List.drop_left]
theorem opPos_next {x y : Ex} {i : Nat} (h : x.ops[i]? = some y) : opPos x (i + 1) = opPos x i + y.els.length := by
  simp only [opPos, List.take_add_one, h, Option.toList_some, List.flatMap_append, List.length_append, List.flatMap_cons, List.flatMap_nil, List.append_nil]
  omega
theorem opPos_le (x : Ex) (i : Nat) : opPos x i ≤ x.els.length := by
  have h := congrArg List.length x.els_ops
  simp only [List.length_cons] at h
  have h2 : ((x.ops.take i).flatMap Ex.els).length ≤ (x.ops.flatMap Ex.els).length := by
    conv => rhs; rw [← List.take_append_drop i x.ops, List.flatMap_append, List.length_append]
    omega
  unfold opPos
  omega
theorem opPos_end {x y : Ex} {i : Nat} (hg : x.good) (h : x.ops[i]? = some y) : endE x.els (opPos x i) = ((opPos x (i + 1) : Nat) : Int) := by
  refine endE_some ?_ (opPos_le _ _)
  rw [opPos_drop, opPos_drop, drop_get h, List.flatMap_cons, scanE_els y _ 0 (x.ops_good hg y (List.mem_of_getElem? h))]
  cases (x.ops.drop (i + 1)).flatMap Ex.els <;> rfl
theorem opPos_cut {x y : Ex} {i : Nat} (h : x.ops[i]? = some y) : (x.els.drop (opPos x i)).take (opPos x (i + 1) - opPos x i) = y.els := by
  rw [opPos_drop, drop_get h, List.flatMap_cons, opPos_next h, Nat.add_sub_cancel_left, List.take_left]
/-- Slice values that read as expressions. -/
def PartsOk (w : World) (vs : List Value) (xs : List Ex) : Prop := vs.length = xs.length ∧ ∀ (j : Nat) (v : Value) (y : Ex), vs[j]? = some v → xs[j]? = some y → ∃ A m c, v = .slice A m c ∧ m ≤ c ∧ RdE w A m y.els
theorem PartsOk.below {w w' : World} {vs : List Value} {xs : List Ex} (h : PartsOk w vs xs) (hb : Below w.heap.size w w') : PartsOk w' vs xs :=
  ⟨h.1, fun j v y hv hy => by obtain ⟨A, m, c, e, hm, hr⟩ := h.2 j v y hv hy; exact ⟨A, m, c, e, hm, hr.below hb (Nat.le_refl _)⟩⟩
theorem PartsOk.snoc {w : World} {vs : List Value} {xs : List Ex} {A : Option Addr} {m c : Nat} {y : Ex} (h : PartsOk w vs xs) (hm : m ≤ c) (hr : RdE w A m y.els) : PartsOk w (vs ++ [.slice A m c]) (xs ++ [y]) := by
  refine ⟨by simp [h.1], fun j v z hv hz => ?_⟩
  by_cases hj : j < vs.length
  · rw [List.getElem?_append_left hj] at hv
    rw [List.getElem?_append_left (by rw [← h.1]; exact hj)] at hz
    exact h.2 j v z hv hz
  · have hl := h.1
    rw [List.getElem?_append_right (by omega)] at hv hz
    have hj0 : j - vs.length = 0 := by
      rcases Nat.eq_zero_or_pos (j - vs.length) with h | h
      · exact h
      · rw [List.getElem?_eq_none (by simp; omega)] at hv; cases hv
    rw [hj0] at hv
    rw [show j - xs.length = 0 by omega] at hz
    simp at hv hz
    subst hv hz
    exact ⟨A, m, c, rfl, hm, hr⟩
theorem infoXS : (Tryz.prog.info? 42).map (fun i => (i.zero, i.size, i.bytes)) = some (some (.slice none 0 0), 1, 24) := by kernel_rfl
theorem eltXS : Elt Tryz.prog 131 42 (.slice none 0 0) := Elt.mk_ Tryz.underlying131 infoXS rfl (by decide)
def OpPost (w : World) (x : Ex) (e : Ending) (w' : World) : Prop := ∃ (A : Option Addr) (c : Nat) (vs : List Value), e = .returned (.slice A x.ops.length c) ∧ w'.ownsRow w.heap.size 42 1 (.slice A x.ops.length c) x.ops.length vs ∧ PartsOk w' vs x.ops ∧ Below w.heap.size w w'
set_option maxHeartbeats 2000000 in
theorem operands_any (w : World) (A : Option Addr) (n c : Nat) (x : Ex) (hg : x.good) (hr : RdE w A n x.els) (hn : n ≤ 1000000000) (hnc : n ≤ c) : Calls Tryz.prog 103 #[.slice A n c] w (OpPost w x) := by
  have HL : Hid (x.els.length = n) := Lib.hid (rdE_len hr)
  have hpos := x.els_pos
  rw [HL.out] at hpos
  obtain ⟨b, off, rfl, hbs, q0, q1⟩ := rdE hr x.els_top
  have HN := Lib.hid (x.ops_len hg)
  have HG := Lib.hid hg
  have hf := fol_le x.top
  generalize hop : x.top = tp at *
  have HT := Lib.hid hop
  clear hop hg
  obtain ⟨k, v⟩ := tp
  simp only [Nat.zero_mul, Nat.add_zero] at q0 q1
  have hlit := own_lit w #[] 0 42 rfl (by omega)
  have hbb := below_new w (.cells #[] 42)
  have HR := Lib.hid hr
  clear hr
  generalize hfx : fol (k, v) = m at *
  have HM := Lib.hid hfx
  clear hfx
  go_enter Tryz.func103, Tryz.ntmps103
  go_wp2_with (go_at_call 144; go_must (refine (exprFollow_any _ _ _).mono ?_; rintro e w2 ⟨rfl, hb2⟩; rw [HM.out]))
  have hown2 := own_below hlit hb2 (Nat.le_refl _)
  have hB2 := hbb.trans (hb2.mono hbb.size)
  clear hlit hbb q0 q1 hb2
  go_loopw [3, 4, 11] (fun p f q wr => ∃ (i : Nat) (A : Option Addr) (c' : Nat) (vs : List Value), i ≤ m ∧ q = .int .i64 i ∧ f = .int .i64 (opPos x i) ∧ p = .slice A i c' ∧ wr.ownsRow w.heap.size 42 1 (.slice A i c') i vs ∧ PartsOk w vs (x.ops.take i) ∧ Below w.heap.size w wr) (fun _ _ q _ => m - (intOf q).toNat)
  case atStart => exact ⟨0, _, _, [], by omega, rfl, rfl, rfl, hown2, ⟨by simp, by simp⟩, hB2⟩
  case round =>
    clear hown2 hB2
    obtain ⟨i, A, c', vs, hi, rfl, rfl, rfl, hown, hp, hb⟩ := hrel
    by_cases hlt : i < m
    · have hlt' : (i : Int) < (m : Int) := by omega
      obtain ⟨y, hy⟩ := get_some (xs := x.ops) (k := i) (by rw [HN.out]; exact hlt)
      have HE := Lib.hid (opPos_end HG.out hy)
      have HNX := Lib.hid (opPos_next hy)
      have hpn : opPos x i < opPos x (i + 1) := by have := HNX.out; have := y.els_pos; omega
      have hpl : opPos x (i + 1) ≤ n := by have := opPos_le x (i + 1); rw [HL.out] at this; exact this
      have HC := Lib.hid (by have h := rdE_cut HR.out (i := opPos x i) (j := opPos x (i + 1)) (by omega) hpl; rw [opPos_cut hy] at h; exact h)
      have HY : Hid (x.ops.take (i + 1) = x.ops.take i ++ [y]) := Lib.hid (by rw [List.take_add_one, hy]; rfl)
      have hr' := HR.out.below hb (Nat.le_refl _)
      clear hy
      generalize hp1 : opPos x i = p1 at *
      generalize hp2 : opPos x (i + 1) = p2 at *
      have HP2 := Lib.hid hp2
      have HP1 := Lib.hid hp1
      clear hp1 hp2
      go_wp2_with fail
      refine (termEndE_any _ _ _ _ _ hr' hn p1 (by omega)).mono ?_
      rw [HE.out]
      rintro e w3 ⟨rfl, hb3⟩
      have hown3 := own_below hown hb3 (Nat.le_refl _)
      have hB3 := hb.trans (hb3.mono hb.size)
      clear hown hb hb3 hr'
      have g1 : (p1 : Int) ≤ (p2 : Int) := by omega
      have g2 : (p2 : Int) ≤ (c : Int) := by omega
      have g3 : ¬ (c = p1) := by omega
      go_wp2_with (at_builtin; go_must (refine wpList_app1g eltXS rfl _ _ rfl w3 w.heap.size _ i _ (by rfl) hown3 _ (by rfl) (by rfl) hB3.size (by omega) ?_; rintro A4 c4 w4 hown4 hb4 hg4))
      go_roundw
      case rel => exact ⟨i + 1, A4, c4, _, by omega, by go_num, by rw [HP2.out], rfl, hown4, by rw [HY.out]; exact hp.snoc (by omega) HC.out, hB3.trans hb4⟩
      case measure => simp [intOf]; omega
    · obtain rfl : i = m := by omega
      go_wp2_with fail
      go_ret
      have hb' : Below w.heap.size w wr := hb
      refine ⟨A, c', vs, ?_, ?_, ?_, hb⟩
      · rw [HN.out]; rfl
      · rw [HN.out]; exact hown
      · rw [List.take_of_length_le (by rw [HN.out]; omega)] at hp; exact hp.below hb'
end Go.Proofs.YtadmbphefpfbmaaGreatDoor
/- The code of an expression: the program's codeOfExpr. -/
namespace Go.Proofs.YtadmbphefpfbmaaGreatDoor
open Go.RowKit
set_option linter.unusedVariables false
set_option linter.unusedSimpArgs false
set_option maxHeartbeats 800000 in
theorem markOf_any (w : World) (k : Int) : Calls Tryz.prog 199 #[.int .i64 k] w fun e w' => e = .returned (.int .i64 (markN k)) ∧ w = w' := by
  by_cases h2 : k = 2
  · subst h2
    go_enter Tryz.func199, Tryz.ntmps199
    go_wp2_with fail
    go_ret
    exact ⟨rfl, rfl⟩
  by_cases h3 : k = 3
  · subst h3
    go_enter Tryz.func199, Tryz.ntmps199
    go_wp2_with fail
    go_ret
    exact ⟨rfl, rfl⟩
  by_cases h4 : k = 4
  · subst h4
    go_enter Tryz.func199, Tryz.ntmps199
    go_wp2_with fail
    go_ret
    exact ⟨rfl, rfl⟩
  have HF : Hid (markN k = 6) := Lib.hid (by simp [markN, h2, h3, h4])
  have b2 : (k == 2) = false := by simpa using h2
  have b3 : (k == 3) = false := by simpa using h3
  have b4 : (k == 4) = false := by simpa using h4
  go_enter Tryz.func199, Tryz.ntmps199
  go_wp2_with fail
  go_ret
  exact ⟨by rw [HF.out]; rfl, rfl⟩
theorem kind_leaf {k v : Int} (ho : okEl (k, v) = true) (hf : fol (k, v) = 0) : k = 0 ∨ k = 1 := by
  simp only [okEl, Bool.and_eq_true, inB_true] at ho
  unfold fol at hf
  simp only at hf
  split at hf
  · omega
  · split at hf
    · omega
    · omega
theorem kind_un {k v : Int} (hf : fol (k, v) = 1) : k = 3 ∨ k = 4 := by
  unfold fol at hf
  simp only at hf
  split at hf
  · omega
  · split at hf <;> omega
theorem kind_bin {k v : Int} (hf : fol (k, v) = 2) : k = 2 ∨ k = 5 := by
  unfold fol at hf
  simp only at hf
  split at hf
  · omega
  · split at hf <;> omega
theorem nilT (w : World) (lo hi : Nat) : IsT w lo hi (.pointer none) .nil := rfl
set_option maxHeartbeats 2000000 in
theorem codeLeaf_any (w : World) (A : Option Addr) (n c : Nat) (k v : Int) (ho : okEl (k, v) = true) (hg : fol (k, v) = 0) (hr : RdE w A n [(k, v)]) : Calls Tryz.prog 166 #[.slice A n c] w (RetTr w w.heap.size (Ex.leaf (k, v)).code) := by
  have hL : n = 1 := by have := rdE_len hr; simpa using this.symm
  subst hL
  obtain ⟨b, off, rfl, hbs, q0, q1⟩ := rdE (k := 0) hr rfl
  simp only [Nat.zero_mul, Nat.add_zero] at q0 q1
  rcases kind_leaf ho hg with rfl | rfl
  · clear ho hg hr
    go_enter Tryz.func166, Tryz.ntmps166
    go_wp2_with fail
    refine (tagTree_any _ 0 (by omega) _ rfl).mono ?_
    rintro e w2 ⟨v2, rfl, h2, hb2⟩
    obtain ⟨o2, rfl⟩ := h2.isPtr
    go_wp2_with fail
    refine (pair_any _ w.heap.size _ _ _ _ h2 (nilT _ _ _) hb2.size (by have := tag_nodes 0; omega) (by simp [Tr.nodes])).mono ?_
    rintro e w3 ⟨v3, rfl, h3, hb3⟩
    obtain ⟨o3, rfl⟩ := h3.isPtr
    go_wp2_with fail
    go_ret
    exact ⟨_, rfl, h3, hb2.trans (hb3.mono hb2.size)⟩
  · clear ho hg hr
    go_enter Tryz.func166, Tryz.ntmps166
    go_wp2_with fail
    refine (tagTree_any _ 1 (by omega) _ rfl).mono ?_
    rintro e w2 ⟨v2, rfl, h2, hb2⟩
    obtain ⟨o2, rfl⟩ := h2.isPtr
    go_wp2_with fail
    refine (pair_any _ w.heap.size _ _ _ _ h2 (nilT _ _ _) hb2.size (by have := tag_nodes 1; omega) (by simp [Tr.nodes])).mono ?_
    rintro e w3 ⟨v3, rfl, h3, hb3⟩
    obtain ⟨o3, rfl⟩ := h3.isPtr
    go_wp2_with fail
    go_ret
    exact ⟨_, rfl, h3, hb2.trans (hb3.mono hb2.size)⟩
theorem lit_leaf (w : World) : RdE (w.alloc (.cells #[.int .i64 0, .int .i64 0] 110)) (some ⟨w.heap.size, 0, none⟩) 1 (Ex.leaf (0, 0)).els := by
  refine ⟨rfl, fun _ => ⟨w.heap.size, 0, rfl, by simp, fun j u hu => ?_⟩⟩
  rw [Nat.zero_add]
  exact blk_cell (box_new w _ _) j (by simpa [Ex.els, eNums] using hu)
theorem code_nd (x : Ex) (h : x.els.length ≤ 40) : x.code.nodes ≤ 1600 := by have := x.code_nodes; omega
set_option maxHeartbeats 8000000 in
set_option maxRecDepth 100000 in
theorem codeOfExpr_any : ∀ (x : Ex) (w : World) (A : Option Addr) (n c : Nat), x.good → x.els.all okEl = true → RdE w A n x.els → n ≤ 40 → n ≤ c → Calls Tryz.prog 166 #[.slice A n c] w (RetTr w w.heap.size x.code) := by
  intro x
  induction x with
  | leaf tp =>
    intro w A n c hg ho hr hn hnc
    obtain ⟨k, v⟩ := tp
    exact codeLeaf_any w A n c k v (by simpa [Ex.els] using ho) hg hr
  | un tp a ih =>
    intro w A n c hg ho hr hn hnc
    have hl := rdE_len hr
    obtain ⟨b, off, rfl, hbs, q0, q1⟩ := rdE (k := 0) hr rfl
    simp only [Nat.zero_mul, Nat.add_zero] at q0 q1
    obtain ⟨k, v⟩ := tp
    have hal : a.els.length ≤ 40 := by simp [Ex.els] at hl; omega
    have hao : a.els.all okEl = true := by simp only [Ex.els, List.all_cons, Bool.and_eq_true] at ho; exact ho.2
    have HIH := Lib.hid ih
    have HG := Lib.hid hg
    have HA := Lib.hid hao
    have HR := Lib.hid hr
    have hk := kind_un hg.1
    have hpos : 0 < n := by simp [Ex.els] at hl; omega
    clear ih hao hg ho hr hl
    have b0 : (k == 0) = false := by rcases hk with rfl | rfl <;> rfl
    have b1 : (k == 1) = false := by rcases hk with rfl | rfl <;> rfl
    have hm := markN_le k
    clear hk
    generalize hmk : markN k = mk at hm
    have HMK := Lib.hid hmk
    clear hmk
    go_enter Tryz.func166, Tryz.ntmps166
    go_wp2_with fail
    refine (operands_any _ _ _ _ (.un (k, v) a) HG.out HR.out (by omega) hnc).mono ?_
    rintro e w1 ⟨Ap, cp, vs, rfl, hop, hps, hb1⟩
    have hops : (Ex.un (k, v) a).ops.length = 1 := rfl
    rw [hops] at hop ⊢
    clear hops
    obtain ⟨u, hu⟩ := get_some (xs := vs) (k := 0) (by have := hps.1; simp [Ex.ops] at this; omega)
    obtain ⟨A1, n1, c1, rfl, hnc1, hr1⟩ := hps.2 0 u a hu rfl
    obtain ⟨G, rfl, hG1, hG2, hc0, _⟩ := own_get hop hu
    have hn1 : n1 ≤ 40 := by have := rdE_len hr1; omega
    have q0' := (hb1.cell (p := ⟨b, off, none⟩) hbs).trans q0
    have hbs1 := Nat.lt_of_lt_of_le hbs hb1.size
    have hr2 := lit_leaf w1
    have hbl := below_new w1 (.cells #[.int .i64 0, .int .i64 0] 110)
    clear hu hps hop q0 q1
    go_wp2_with (first
      | (go_at_call 199; go_must (refine (markOf_any _ _).mono ?_; rw [HMK.out]; rintro e w' ⟨rfl, rfl⟩))
      | (go_at_call 68; go_must (refine (tagTree_any _ mk (by omega) _ rfl).mono ?_; rintro e w2 ⟨v2, rfl, h2, hb2⟩; obtain ⟨o2, rfl⟩ := h2.isPtr; have h2s := hb2.size))
      | (go_at_call 60; go_must (refine (pair_any _ w.heap.size _ _ _ _ (h2.wide (by have := hb1.size; simp; omega) (Nat.le_refl _)) (nilT _ _ _) (by have := hb1.size; simp at h2s; omega) (by have := tag_nodes mk; omega) (by simp [Tr.nodes])).mono ?_; rintro e w3 ⟨v3, rfl, h3, hb3⟩; obtain ⟨o3, rfl⟩ := h3.isPtr)))
    have hnd1 : a.code.nodes ≤ 1000000000 := by have := code_nd a hal; omega
    have hnd2 : (Ex.leaf (0, 0)).code.nodes ≤ 1000000000 := by have := code_nd (.leaf (0, 0)) (by simp [Ex.els]); omega
    have hnd3 : (Tr.node (tagTr mk) .nil).nodes ≤ 1000000000 := by have := tag_nodes mk; simp only [Tr.nodes]; omega
    have hnd4 : (Tr.node a.code (Ex.leaf (0, 0)).code).nodes ≤ 1000000000 := by have := code_nd a hal; have := code_nd (.leaf (0, 0)) (by simp [Ex.els]); simp only [Tr.nodes]; omega
    have hnd5 : (tagTr 2).nodes ≤ 1000000000 := by have := tag_nodes 2; omega
    have hnd6 : (Tr.node (.node (tagTr mk) .nil) (.node a.code (Ex.leaf (0, 0)).code)).nodes ≤ 1000000000 := by have := tag_nodes mk; have := code_nd a hal; have := code_nd (.leaf (0, 0)) (by simp [Ex.els]); simp only [Tr.nodes] at *; omega
    have hz3 : w.heap.size ≤ w3.heap.size := by have := hb1.size; have := hb2.size; have := hb3.size; simp at *; omega
    have hz1 : w1.heap.size ≤ w3.heap.size := by have := hb2.size; have := hb3.size; simp at *; omega
    have hb13 : Below w1.heap.size w1 w3 := (hbl.trans (hb2.mono (by simp))).trans (hb3.mono (by have := hb2.size; simp at this; omega))
    have hc := (hb13.cell (p := ⟨G, 0, none⟩) hG2).trans hc0
    have hG3 : G < w3.heap.size := Nat.lt_of_lt_of_le hG2 hz1
    have HR1 := Lib.hid (hr1.below hb13 (Nat.le_refl _))
    have HR2 := Lib.hid ((hr2.below hb2 (Nat.le_refl _)).below hb3 (Nat.le_refl _))
    have HB3 := Lib.hid (hb1.trans (hb13.mono hb1.size))
    clear hr1 hr2 hb13 hbl hb1 hb2 hb3 h2 h2s hc0 q0' hz1
    go_region_held3 (fun w' => w'.cell? ⟨G, 0, none⟩ = some (.slice A1 n1 c1)) (exact hc) (first
      | (go_at_call 60
         refine (pair_any _ w.heap.size _ _ _ _ (by first | exact h48.drew | exact h48) (by first | exact h8.drew | exact h8) (by exact hz8) hnd5 hnd6).mono ?_
         rintro e w9 ⟨v9, rfl, h9, hb9⟩
         obtain ⟨o9, rfl⟩ := h9.isPtr
         (try replace hb9 := und1 hb9)
         have hc := (hb9.cell (p := ⟨G, 0, none⟩) hG8).trans hc
         have HB9 := Lib.hid (HB8.out.trans (hb9.mono HB8.out.size)))
      | (go_at_call 60
         refine (pair_any _ w.heap.size _ _ _ _ (by first | exact h37.drew | exact h37) (by first | exact h7.drew | exact h7) (by exact hz7) hnd3 hnd4).mono ?_
         rintro e w8 ⟨v8, rfl, h8, hb8⟩
         obtain ⟨o8, rfl⟩ := h8.isPtr
         (try replace hb8 := und1 hb8)
         have hc := (hb8.cell (p := ⟨G, 0, none⟩) hG7).trans hc
         have h48 := h47.up hb8
         have HB8 := Lib.hid (HB7.out.trans (hb8.mono HB7.out.size))
         have hG8 := Nat.lt_of_lt_of_le hG7 hb8.size
         have hz8 := HB8.out.size)
      | (go_at_call 60
         refine (pair_any _ w.heap.size _ _ _ _ (by first | exact h56.drew | exact h56) (by first | exact h6a.drew | exact h6a) (by exact hz6) hnd1 hnd2).mono ?_
         rintro e w7 ⟨v7, rfl, h7, hb7⟩
         obtain ⟨o7, rfl⟩ := h7.isPtr
         (try replace hb7 := und1 hb7)
         have hc := (hb7.cell (p := ⟨G, 0, none⟩) hG6).trans hc
         have h47 := h46.up hb7
         have h37 := h36.up hb7
         have HB7 := Lib.hid (HB6.out.trans (hb7.mono HB6.out.size))
         have hG7 := Nat.lt_of_lt_of_le hG6 hb7.size
         have hz7 := HB7.out.size)
      | (go_at_call 166
         refine (codeLeaf_any _ _ _ _ 0 0 rfl rfl (by exact HR25.out)).mono ?_
         rintro e w6 ⟨v6, rfl, h6, hb6⟩
         obtain ⟨o6, rfl⟩ := h6.isPtr
         (try replace hb6 := und1 hb6)
         have hc := (hb6.cell (p := ⟨G, 0, none⟩) hG5).trans hc
         have h6a := h6.wide (lo' := w.heap.size) hz5 (Nat.le_refl _)
         have h46 := h45.up hb6
         have h36 := h35.up hb6
         have h56 := h5a.up hb6
         have HB6 := Lib.hid (HB5.out.trans (hb6.mono HB5.out.size))
         have hG6 := Nat.lt_of_lt_of_le hG5 hb6.size
         have hz6 := HB6.out.size)
      | (go_at_call 166
         refine (HIH.out _ _ _ _ HG.out.2 HA.out (by exact HR14.out) (by omega) (by omega)).mono ?_
         rintro e w5 ⟨v5, rfl, h5, hb5⟩
         obtain ⟨o5, rfl⟩ := h5.isPtr
         (try replace hb5 := und1 hb5)
         have hc := (hb5.cell (p := ⟨G, 0, none⟩) hG4).trans hc
         have h5a := h5.wide (lo' := w.heap.size) hz4 (Nat.le_refl _)
         have h45 := h4a.up hb5
         have h35 := h34.up hb5
         have HR25 := Lib.hid (HR24.out.below hb5 (Nat.le_refl _))
         have HB5 := Lib.hid (HB4.out.trans (hb5.mono HB4.out.size))
         have hG5 := Nat.lt_of_lt_of_le hG4 hb5.size
         have hz5 := HB5.out.size)
      | (go_at_call 68
         refine (tagTree_any _ 2 (by omega) _ rfl).mono ?_
         rintro e w4 ⟨v4, rfl, h4, hb4⟩
         obtain ⟨o4, rfl⟩ := h4.isPtr
         (try replace hb4 := und1 hb4)
         have hc := (hb4.cell (p := ⟨G, 0, none⟩) hG3).trans hc
         have h4a := h4.wide (lo' := w.heap.size) hz3 (Nat.le_refl _)
         have h34 := h3.up hb4
         have HR14 := Lib.hid (HR1.out.below hb4 (Nat.le_refl _))
         have HR24 := Lib.hid (HR2.out.below hb4 (Nat.le_refl _))
         have HB4 := Lib.hid (HB3.out.trans (hb4.mono HB3.out.size))
         have hG4 := Nat.lt_of_lt_of_le hG3 hb4.size
         have hz4 := HB4.out.size))
    go_wp2_with fail
    go_ret
    exact ⟨_, rfl, by rw [show (Ex.un (k, v) a).code = .node (tagTr 2) (.node (.node (tagTr (markN k)) .nil) (.node a.code (Ex.leaf (0, 0)).code)) from rfl, HMK.out]; exact h9, HB9.out⟩
  | bin tp a b iha ihb =>
    intro w A n c hg ho hr hn hnc
    have hl := rdE_len hr
    obtain ⟨bk, off, rfl, hbs, q0, q1⟩ := rdE (k := 0) hr rfl
    simp only [Nat.zero_mul, Nat.add_zero] at q0 q1
    obtain ⟨k, v⟩ := tp
    have hal : a.els.length ≤ 40 := by simp [Ex.els] at hl; omega
    have hbl : b.els.length ≤ 40 := by simp [Ex.els] at hl; omega
    have hao : a.els.all okEl = true ∧ b.els.all okEl = true := by simpa only [Ex.els, List.all_cons, List.all_append, Bool.and_eq_true] using ((by simp only [Ex.els, List.all_cons, Bool.and_eq_true] at ho; exact ho.2) : (a.els ++ b.els).all okEl = true)
    have HIH := Lib.hid iha
    have HIB := Lib.hid ihb
    have HG := Lib.hid hg
    have HA := Lib.hid hao
    have HR := Lib.hid hr
    have hk := kind_bin hg.1
    have hpos : 0 < n := by simp [Ex.els] at hl; omega
    clear iha ihb hao hg ho hr hl
    have b0 : (k == 0) = false := by rcases hk with rfl | rfl <;> rfl
    have b1 : (k == 1) = false := by rcases hk with rfl | rfl <;> rfl
    have hm := markN_le k
    clear hk
    generalize hmk : markN k = mk at hm
    have HMK := Lib.hid hmk
    clear hmk
    go_enter Tryz.func166, Tryz.ntmps166
    go_wp2_with fail
    refine (operands_any _ _ _ _ (.bin (k, v) a b) HG.out HR.out (by omega) hnc).mono ?_
    rintro e w1 ⟨Ap, cp, vs, rfl, hop, hps, hb1⟩
    have hops : (Ex.bin (k, v) a b).ops.length = 2 := rfl
    rw [hops] at hop ⊢
    clear hops
    obtain ⟨u, hu⟩ := get_some (xs := vs) (k := 0) (by have := hps.1; simp [Ex.ops] at this; omega)
    obtain ⟨A1, n1, c1, rfl, hnc1, hr1⟩ := hps.2 0 u a hu rfl
    obtain ⟨u2, hu2⟩ := get_some (xs := vs) (k := 1) (by have := hps.1; simp [Ex.ops] at this; omega)
    obtain ⟨A2, n2, c2, rfl, hnc2, hr2⟩ := hps.2 1 u2 b hu2 rfl
    obtain ⟨G, rfl, hG1, hG2, hc0, _⟩ := own_get hop hu
    obtain ⟨G', hGe, _, _, hc1, _⟩ := own_get hop hu2
    obtain rfl : G = G' := by simpa using hGe
    have hn2 : n2 ≤ 40 := by have := rdE_len hr2; omega
    have hn1 : n1 ≤ 40 := by have := rdE_len hr1; omega
    have q0' := (hb1.cell (p := ⟨bk, off, none⟩) hbs).trans q0
    have hbs1 := Nat.lt_of_lt_of_le hbs hb1.size
    have hbw := below_new w1 (.cells #[.int .i64 0, .int .i64 0] 110)
    clear hu hu2 hps hop q0 q1 hGe
    go_wp2_with (first
      | (go_at_call 199; go_must (refine (markOf_any _ _).mono ?_; rw [HMK.out]; rintro e w' ⟨rfl, rfl⟩))
      | (go_at_call 68; go_must (refine (tagTree_any _ mk (by omega) _ rfl).mono ?_; rintro e w2 ⟨v2, rfl, h2, hb2⟩; obtain ⟨o2, rfl⟩ := h2.isPtr; have h2s := hb2.size))
      | (go_at_call 60; go_must (refine (pair_any _ w.heap.size _ _ _ _ (h2.wide (by have := hb1.size; simp; omega) (Nat.le_refl _)) (nilT _ _ _) (by have := hb1.size; simp at h2s; omega) (by have := tag_nodes mk; omega) (by simp [Tr.nodes])).mono ?_; rintro e w3 ⟨v3, rfl, h3, hb3⟩; obtain ⟨o3, rfl⟩ := h3.isPtr)))
    have hnd1 : a.code.nodes ≤ 1000000000 := by have := code_nd a hal; omega
    have hnd2 : b.code.nodes ≤ 1000000000 := by have := code_nd b hbl; omega
    have hnd3 : (Tr.node (tagTr mk) .nil).nodes ≤ 1000000000 := by have := tag_nodes mk; simp only [Tr.nodes]; omega
    have hnd4 : (Tr.node a.code b.code).nodes ≤ 1000000000 := by have := code_nd a hal; have := code_nd b hbl; simp only [Tr.nodes]; omega
    have hnd5 : (tagTr 2).nodes ≤ 1000000000 := by have := tag_nodes 2; omega
    have hnd6 : (Tr.node (.node (tagTr mk) .nil) (.node a.code b.code)).nodes ≤ 1000000000 := by have := tag_nodes mk; have := code_nd a hal; have := code_nd b hbl; simp only [Tr.nodes] at *; omega
    have hz3 : w.heap.size ≤ w3.heap.size := by have := hb1.size; have := hb2.size; have := hb3.size; simp at *; omega
    have hz1 : w1.heap.size ≤ w3.heap.size := by have := hb2.size; have := hb3.size; simp at *; omega
    have hb13 : Below w1.heap.size w1 w3 := (hbw.trans (hb2.mono (by simp))).trans (hb3.mono (by have := hb2.size; simp at this; omega))
    have hc := (hb13.cell (p := ⟨G, 0, none⟩) hG2).trans hc0
    have hG3 : G < w3.heap.size := Nat.lt_of_lt_of_le hG2 hz1
    have HR1 := Lib.hid (hr1.below hb13 (Nat.le_refl _))
    have HR2 := Lib.hid (hr2.below hb13 (Nat.le_refl _))
    have HB3 := Lib.hid (hb1.trans (hb13.mono hb1.size))
    clear hr1 hr2 hb13 hbw hb1 hc1 hb2 hb3 h2 h2s hc0 q0' hz1
    go_region_held3 (fun w' => w'.cell? ⟨G, 0, none⟩ = some (.slice A1 n1 c1)) (exact hc) (first
      | (go_at_call 60
         refine (pair_any _ w.heap.size _ _ _ _ (by first | exact h48.drew | exact h48) (by first | exact h8.drew | exact h8) (by exact hz8) hnd5 hnd6).mono ?_
         rintro e w9 ⟨v9, rfl, h9, hb9⟩
         obtain ⟨o9, rfl⟩ := h9.isPtr
         (try replace hb9 := und1 hb9)
         have hc := (hb9.cell (p := ⟨G, 0, none⟩) hG8).trans hc
         have HB9 := Lib.hid (HB8.out.trans (hb9.mono HB8.out.size)))
      | (go_at_call 60
         refine (pair_any _ w.heap.size _ _ _ _ (by first | exact h37.drew | exact h37) (by first | exact h7.drew | exact h7) (by exact hz7) hnd3 hnd4).mono ?_
         rintro e w8 ⟨v8, rfl, h8, hb8⟩
         obtain ⟨o8, rfl⟩ := h8.isPtr
         (try replace hb8 := und1 hb8)
         have hc := (hb8.cell (p := ⟨G, 0, none⟩) hG7).trans hc
         have h48 := h47.up hb8
         have HB8 := Lib.hid (HB7.out.trans (hb8.mono HB7.out.size))
         have hG8 := Nat.lt_of_lt_of_le hG7 hb8.size
         have hz8 := HB8.out.size)
      | (go_at_call 60
         refine (pair_any _ w.heap.size _ _ _ _ (by first | exact h56.drew | exact h56) (by first | exact h6a.drew | exact h6a) (by exact hz6) hnd1 hnd2).mono ?_
         rintro e w7 ⟨v7, rfl, h7, hb7⟩
         obtain ⟨o7, rfl⟩ := h7.isPtr
         (try replace hb7 := und1 hb7)
         have hc := (hb7.cell (p := ⟨G, 0, none⟩) hG6).trans hc
         have h47 := h46.up hb7
         have h37 := h36.up hb7
         have HB7 := Lib.hid (HB6.out.trans (hb7.mono HB6.out.size))
         have hG7 := Nat.lt_of_lt_of_le hG6 hb7.size
         have hz7 := HB7.out.size)
      | (go_at_call 166
         refine (HIB.out _ _ _ _ HG.out.2.2 HA.out.2 (by exact HR25.out) (by omega) (by omega)).mono ?_
         rintro e w6 ⟨v6, rfl, h6, hb6⟩
         obtain ⟨o6, rfl⟩ := h6.isPtr
         (try replace hb6 := und1 hb6)
         have hc := (hb6.cell (p := ⟨G, 0, none⟩) hG5).trans hc
         have h6a := h6.wide (lo' := w.heap.size) hz5 (Nat.le_refl _)
         have h46 := h45.up hb6
         have h36 := h35.up hb6
         have h56 := h5a.up hb6
         have HB6 := Lib.hid (HB5.out.trans (hb6.mono HB5.out.size))
         have hG6 := Nat.lt_of_lt_of_le hG5 hb6.size
         have hz6 := HB6.out.size)
      | (go_at_call 166
         refine (HIH.out _ _ _ _ HG.out.2.1 HA.out.1 (by exact HR14.out) (by omega) (by omega)).mono ?_
         rintro e w5 ⟨v5, rfl, h5, hb5⟩
         obtain ⟨o5, rfl⟩ := h5.isPtr
         (try replace hb5 := und1 hb5)
         have hc := (hb5.cell (p := ⟨G, 0, none⟩) hG4).trans hc
         have h5a := h5.wide (lo' := w.heap.size) hz4 (Nat.le_refl _)
         have h45 := h4a.up hb5
         have h35 := h34.up hb5
         have HR25 := Lib.hid (HR24.out.below hb5 (Nat.le_refl _))
         have HB5 := Lib.hid (HB4.out.trans (hb5.mono HB4.out.size))
         have hG5 := Nat.lt_of_lt_of_le hG4 hb5.size
         have hz5 := HB5.out.size)
      | (go_at_call 68
         refine (tagTree_any _ 2 (by omega) _ rfl).mono ?_
         rintro e w4 ⟨v4, rfl, h4, hb4⟩
         obtain ⟨o4, rfl⟩ := h4.isPtr
         (try replace hb4 := und1 hb4)
         have hc := (hb4.cell (p := ⟨G, 0, none⟩) hG3).trans hc
         have h4a := h4.wide (lo' := w.heap.size) hz3 (Nat.le_refl _)
         have h34 := h3.up hb4
         have HR14 := Lib.hid (HR1.out.below hb4 (Nat.le_refl _))
         have HR24 := Lib.hid (HR2.out.below hb4 (Nat.le_refl _))
         have HB4 := Lib.hid (HB3.out.trans (hb4.mono HB3.out.size))
         have hG4 := Nat.lt_of_lt_of_le hG3 hb4.size
         have hz4 := HB4.out.size))
    go_wp2_with fail
    go_ret
    exact ⟨_, rfl, by rw [show (Ex.bin (k, v) a b).code = .node (tagTr 2) (.node (.node (tagTr (markN k)) .nil) (.node a.code b.code)) from rfl, HMK.out]; exact h9, HB9.out⟩
end Go.Proofs.YtadmbphefpfbmaaGreatDoor
/- CodeExpr: the program's function. -/
namespace Go.Proofs.YtadmbphefpfbmaaGreatDoor
open Go.RowKit
set_option linter.unusedVariables false
set_option linter.unusedSimpArgs false
theorem cex_bad {es : List El} (h : wfE es = false) : cexL es = [] ∧ cexC es = 1 := by simp [cexL, cexC, h]
theorem cex_var {es : List El} (h : wfE es = true) (h2 : only0 es = false) : cexL es = [] ∧ cexC es = 2 := by simp [cexL, cexC, h, h2]
theorem cex_ok {x : Ex} (hg : x.good) (h : wfE x.els = true) (h2 : only0 x.els = true) (hn : x.els.length ≤ 40) : cexL x.els = x.code.bits ∧ cexC x.els = 0 := by
  have h3 := code_nd x hn
  have h4 : x.code.nodes ≤ 2000 := by omega
  simp [cexL, cexC, h, h2, codeE_els hg, h4]
end Go.Proofs.YtadmbphefpfbmaaGreatDoor
/- Rows of bits on a stack; l21Nil, l21Pair, l23Item, l23Mark. -/
namespace Go.Proofs.YtadmbphefpfbmaaGreatDoor
open Go.RowKit
set_option linter.unusedVariables false
set_option linter.unusedSimpArgs false
theorem Tryz.infoSB : (Tryz.prog.info? 22).map (fun i => (i.zero, i.size, i.bytes)) = some (some (.slice none 0 0), 1, 24) := by kernel_rfl
theorem eltSB : Elt Tryz.prog 112 22 (.slice none 0 0) := Elt.mk_ Tryz.underlying112 Tryz.infoSB rfl (by decide)

set_option maxHeartbeats 400000 in
theorem l21Nil_any (w : World) : Calls Tryz.prog 82 #[] w (RetS w 4 (bools [false])) := by
  go_enter Tryz.func82, Tryz.ntmps82
  go_wp2_with fail
  go_ret
  exact ⟨_, _, _, rfl, own_lit w #[.bool false] 1 4 rfl (by omega), below_new _ _⟩

set_option maxHeartbeats 800000 in
theorem l21Pair_any (w : World) (A : Option Addr) (n c : Nat) (xs : List Bool) (hr : Rd w A n (bools xs)) (hn : n ≤ 1000000000) (A' : Option Addr) (n' c' : Nat) (ys : List Bool) (hr' : Rd w A' n' (bools ys)) (hn' : n' ≤ 1000000000) :
    Calls Tryz.prog 58 #[.slice A n c, .slice A' n' c'] w (RetS w 4 (bools (true :: (xs ++ ys)))) := by
  have hown := own_lit w #[.bool true] 1 4 rfl (by omega)
  have HB0 := Lib.hid (below_new w (.cells #[.bool true] 4))
  go_enter Tryz.func58, Tryz.ntmps58
  go_wp2_with (first
    | (at_builtin; refine wpList_appS eltB rfl _ _ rfl (w.alloc (.cells #[.bool true] 4)) w.heap.size _ 1 _ (by rfl) hown _ n c (bools xs) (by rfl) (hr.alloc _) (bools_one _) (by simp) (by omega) ?_; rintro A1 c1 w1 hown1 hb1; have HB1 := Lib.hid (HB0.out.trans hb1))
    | (at_builtin; go_must (refine wpList_appS eltB rfl _ _ rfl w1 w.heap.size _ (1 + n) _ (by rfl) hown1 _ n' c' (bools ys) (by rfl) (hr'.below HB1.out (Nat.le_refl _)) (bools_one _) HB1.out.size (by omega) ?_; rintro A2 c2 w2 hown2 hb2)))
  go_ret
  refine ⟨A2, _, c2, rfl, ?_, HB1.out.trans hb2⟩
  simpa using hown2

/-- A list of rows of the call's own. -/
def Stk (w : World) (lo : Nat) (us : List Value) (xss : List (List Bool)) : Prop :=
  us.length = xss.length ∧ ∀ (i : Nat) (u : Value) (xs : List Bool), us[i]? = some u → xss[i]? = some xs → ∃ A n c, u = .slice A n c ∧ w.ownsRow lo 4 1 (.slice A n c) n (bools xs)
theorem Stk.below {w w' : World} {lo B : Nat} {us : List Value} {xss : List (List Bool)} (h : Stk w lo us xss) (hb : Below B w w') (hB : w.heap.size ≤ B) : Stk w' lo us xss := by
  refine ⟨h.1, fun i u xs hu hx => ?_⟩
  obtain ⟨A, n, c, rfl, ho⟩ := h.2 i u xs hu hx
  exact ⟨A, n, c, rfl, own_below ho hb hB⟩
theorem Stk.grown {w w' : World} {lo lo' T n : Nat} {us vs : List Value} {xss : List (List Bool)} {v : Value} (h : Stk w lo us xss) (ho : w.ownsRow lo' T 1 v n vs) (hT : T ≠ 4) (hg : w.grownBy w' v.ownBlock) : Stk w' lo us xss := by
  refine ⟨h.1, fun i u xs hu hx => ?_⟩
  obtain ⟨A, m, c, rfl, hr⟩ := h.2 i u xs hu hx
  refine ⟨A, m, c, rfl, own_apart hr hg fun k h1 h2 => ?_⟩
  rcases ho.2 with ⟨rfl, _⟩ | ⟨g, cap, cur, rfl, _, hgg, _⟩
  · simp [Value.ownBlock] at h2
  · simp [Value.ownBlock] at h2
    subst h2
    exact own_blk_ne hr hgg hT h1
theorem Stk.snoc {w : World} {lo S n c : Nat} {us : List Value} {xss : List (List Bool)} {A : Option Addr} {xs : List Bool} (h : Stk w lo us xss) (ho : w.ownsRow S 4 1 (.slice A n c) n (bools xs)) (hS : lo ≤ S) : Stk w lo (us ++ [.slice A n c]) (xss ++ [xs]) := by
  refine ⟨by simp [h.1], fun i u ys hu hx => ?_⟩
  by_cases hi : i < us.length
  · rw [List.getElem?_append_left hi] at hu
    rw [List.getElem?_append_left (by rw [← h.1]; exact hi)] at hx
    exact h.2 i u ys hu hx
  · have hl := h.1
    rw [List.getElem?_append_right (by omega)] at hu hx
    have hi0 : i - us.length = 0 := by
      rcases Nat.eq_zero_or_pos (i - us.length) with h | h
      · exact h
      · rw [List.getElem?_eq_none (by simp; omega)] at hu; cases hu
    rw [hi0] at hu
    rw [show i - xss.length = 0 by omega] at hx
    simp at hu hx
    subst hu hx
    exact ⟨A, n, c, rfl, own_base ho hS⟩
theorem Stk.take {w : World} {lo k : Nat} {us : List Value} {xss : List (List Bool)} (h : Stk w lo us xss) : Stk w lo (us.take k) (xss.take k) := by
  refine ⟨by simp [h.1], fun i u xs hu hx => ?_⟩
  rw [List.getElem?_take] at hu hx
  split at hu
  · rename_i hi
    rw [if_pos hi] at hx
    exact h.2 i u xs hu hx
  · cases hu


theorem l21PairT_any (w : World) (A : Option Addr) (n c : Nat) (t : Tr) (hr : Rd w A n (bools t.bits)) (hn : n ≤ 1000000000) (A' : Option Addr) (n' c' : Nat) (u : Tr) (hr' : Rd w A' n' (bools u.bits)) (hn' : n' ≤ 1000000000) :
    Calls Tryz.prog 58 #[.slice A n c, .slice A' n' c'] w (RetS w 4 (bools (Tr.node t u).bits)) := l21Pair_any w A n c t.bits hr hn A' n' c' u.bits hr' hn'
set_option maxHeartbeats 800000 in
theorem l23Item_any (w : World) (k : Nat) (hk : k ≤ 11) (x : Int) (hx : x = (k : Int)) (A : Option Addr) (n c : Nat) (t : Tr) (hr : Rd w A n (bools t.bits)) (hn : n ≤ 1000000000) :
    Calls Tryz.prog 230 #[.int .i64 x, .slice A n c] w (RetS w 4 (bools (Tr.node (tagTr k) t).bits)) := by
  subst hx
  go_enter Tryz.func230, Tryz.ntmps230
  go_wp2_with fail
  refine (l23Tag_any _ k hk _ rfl).mono ?_
  rintro e w2 ⟨A2, n2, c2, rfl, ho2, hb2⟩
  have hn2 : n2 ≤ 9 := by have h1 := ho2.1; have h2 := tag_nodes k; simp [Tr.bits_len] at h1; omega
  go_wp2_with fail
  refine (l21PairT_any _ _ _ _ (tagTr k) (own_rd ho2) (by omega) _ _ _ t (hr.below hb2 (Nat.le_refl _)) hn).mono ?_
  rintro e w3 ⟨A3, n3, c3, rfl, ho3, hb3⟩
  go_wp2_with fail
  go_ret
  exact ⟨A3, n3, c3, rfl, own_base ho3 hb2.size, hb2.trans (hb3.mono hb2.size)⟩
end Go.Proofs.YtadmbphefpfbmaaGreatDoor
/- CodeExpr: the reference's function, with its stack of rows. -/
namespace Go.Proofs.YtadmbphefpfbmaaGreatDoor
open Go.RowKit
set_option linter.unusedVariables false
set_option linter.unusedSimpArgs false
set_option maxHeartbeats 800000 in
theorem l23Mark_any (w : World) (k : Int) : Calls Tryz.prog 254 #[.int .i64 k] w fun e w' => e = .returned (.int .i64 (markN k)) ∧ w = w' := by
  by_cases h2 : k = 2
  · subst h2
    go_enter Tryz.func254, Tryz.ntmps254
    go_wp2_with fail
    go_ret
    exact ⟨rfl, rfl⟩
  by_cases h3 : k = 3
  · subst h3
    go_enter Tryz.func254, Tryz.ntmps254
    go_wp2_with fail
    go_ret
    exact ⟨rfl, rfl⟩
  by_cases h4 : k = 4
  · subst h4
    go_enter Tryz.func254, Tryz.ntmps254
    go_wp2_with fail
    go_ret
    exact ⟨rfl, rfl⟩
  have HF : Hid (markN k = 6) := Lib.hid (by simp [markN, h2, h3, h4])
  have b2 : (k == 2) = false := by simpa using h2
  have b3 : (k == 3) = false := by simpa using h3
  have b4 : (k == 4) = false := by simpa using h4
  go_enter Tryz.func254, Tryz.ntmps254
  go_wp2_with fail
  go_ret
  exact ⟨by rw [HF.out]; rfl, rfl⟩
def cstk (es : List El) : List (List Bool) := ((forestE es).map fun x => x.code.bits).reverse
theorem cstk_leaf {x : El} (r : List El) (h : fol x = 0) : cstk (x :: r) = cstk r ++ [(Ex.leaf x).code.bits] := by simp [cstk, forestE_leaf r h]
theorem cstk_un {x : El} {r : List El} {a : Ex} {ts : List Ex} (h : fol x = 1) (e : forestE r = a :: ts) :
    cstk r = (ts.map fun x => x.code.bits).reverse ++ [a.code.bits] ∧ cstk (x :: r) = (ts.map fun x => x.code.bits).reverse ++ [(Ex.un x a).code.bits] := by
  constructor
  · simp [cstk, e]
  · simp [cstk, forestE_un h e]
theorem cstk_bin {x : El} {r : List El} {a b : Ex} {ts : List Ex} (h : fol x = 2) (e : forestE r = a :: b :: ts) :
    cstk r = (ts.map fun x => x.code.bits).reverse ++ [b.code.bits, a.code.bits] ∧ cstk (x :: r) = (ts.map fun x => x.code.bits).reverse ++ [(Ex.bin x a b).code.bits] := by
  constructor
  · simp [cstk, e]
  · simp [cstk, forestE_bin h e]
theorem scanE_suf {es : List El} (h : scanE es 1 = some []) : ∀ k, k ≤ es.length → ∃ o, scanE (es.drop k) o = some []
  | 0, _ => ⟨1, by simpa using h⟩
  | k + 1, hk => by
    obtain ⟨o, ho⟩ := scanE_suf h k (by omega)
    obtain ⟨x, hx⟩ := get_some (xs := es) (k := k) (by omega)
    rw [drop_get hx] at ho
    cases o with
    | zero => simp [scanE] at ho
    | succ o => exact ⟨o + fol x, ho⟩
theorem scanE_at {es : List El} {k : Nat} {x : El} (h : scanE es 1 = some []) (hx : es[k]? = some x) : ∃ o, scanE (es.drop (k + 1)) (o + fol x) = some [] := by
  have hk := (List.getElem?_eq_some_iff.1 hx).1
  obtain ⟨o, ho⟩ := scanE_suf h k (by omega)
  rw [drop_get hx] at ho
  cases o with
  | zero => simp [scanE] at ho
  | succ o => exact ⟨o, ho⟩
theorem one_ex {es : List El} {k : Nat} {x : El} (h : scanE es 1 = some []) (hl : es.length ≤ 40) (hx : es[k]? = some x) (hf : fol x = 1) : ∃ a ts, forestE (es.drop (k + 1)) = a :: ts ∧ a.code.nodes ≤ 1600 := by
  obtain ⟨o, ho⟩ := scanE_at h hx
  obtain ⟨f1, f2, _⟩ := scanE_forest _ _ ho
  match hq : forestE (es.drop (k + 1)), f1, f2 with
  | [], f1, _ => simp at f1; omega
  | a :: ts, _, f2 =>
    have h2 : (es.drop (k + 1)).length ≤ es.length := by simp
    rw [← f2] at h2
    simp only [List.flatMap_cons, List.length_append] at h2
    exact ⟨a, ts, rfl, code_nd a (by omega)⟩
theorem two_ex {es : List El} {k : Nat} {x : El} (h : scanE es 1 = some []) (hl : es.length ≤ 40) (hx : es[k]? = some x) (hf : fol x = 2) : ∃ a b ts, forestE (es.drop (k + 1)) = a :: b :: ts ∧ a.code.nodes ≤ 1600 ∧ b.code.nodes ≤ 1600 := by
  obtain ⟨o, ho⟩ := scanE_at h hx
  obtain ⟨f1, f2, _⟩ := scanE_forest _ _ ho
  match hq : forestE (es.drop (k + 1)), f1, f2 with
  | [], f1, _ => simp at f1; omega
  | [_], f1, _ => simp at f1; omega
  | a :: b :: ts, _, f2 =>
    have h2 : (es.drop (k + 1)).length ≤ es.length := by simp
    rw [← f2] at h2
    simp only [List.flatMap_cons, List.length_append] at h2
    exact ⟨a, b, ts, rfl, code_nd a (by omega), code_nd b (by omega)⟩
theorem forestE_len : ∀ es : List El, (forestE es).length ≤ es.length
  | [] => by simp [forestE]
  | x :: r => by
    have ih := forestE_len r
    rcases fol_cases x with e | e | e
    · rw [forestE_leaf r e]; simp; exact ih
    · match hf : forestE r, ih with
      | [], _ => simp [forestE, e, hf]
      | a :: ts, ih => rw [forestE_un e hf]; simp at ih ⊢; omega
    · match hf : forestE r, ih with
      | [], _ => simp [forestE, e, hf]
      | [a], _ => simp [forestE, e, hf]
      | a :: b :: ts, ih => rw [forestE_bin e hf]; simp at ih ⊢; omega
theorem cstk_len (es : List El) (k : Nat) : (cstk (es.drop k)).length ≤ es.length := by
  have := forestE_len (es.drop k)
  simp [cstk] at this ⊢
  omega
set_option maxHeartbeats 8000000 in
set_option maxRecDepth 100000 in
theorem l23Code_any (w : World) (A : Option Addr) (n c : Nat) (x : Ex) (hg : x.good) (ho : x.els.all okEl = true) (hr : RdE w A n x.els) (hn : n ≤ 40) : Calls Tryz.prog 231 #[.slice A n c] w (RetS w 4 (bools x.code.bits)) := by
  obtain ⟨es, hes⟩ : ∃ es, es = x.els := ⟨_, rfl⟩
  rw [← hes] at hr ho
  have HL : Hid (es.length = n) := Lib.hid (rdE_len hr)
  have HSC : Hid (scanE es 1 = some []) := Lib.hid (by
    rw [hes]
    have e := scanE_els x [] 0 hg
    simp only [List.append_nil] at e
    rw [e]; rfl)
  have HF : Hid (cstk es = [x.code.bits]) := Lib.hid (by
    rw [hes, cstk]
    have e := forestE_els x [] hg
    simp only [List.append_nil] at e
    rw [e]; rfl)
  have HO := Lib.hid ho
  have hlit := own_lit w #[] 0 22 rfl (by omega)
  clear hes hg ho
  go_enter Tryz.func231, Tryz.ntmps231
  go_wp2_with fail
  go_loopw [3, 4] (fun v i wr => ∃ (j m : Nat) (us : List Value), i = .int .i64 ((j : Int) - 1) ∧ j ≤ n ∧ m ≤ 40 ∧ wr.ownsRow w.heap.size 22 1 v m us ∧ Stk wr w.heap.size us (cstk (es.drop j)) ∧ Below w.heap.size w wr) (fun _ i _ => (intOf i + 1).toNat)
  case atStart =>
    refine ⟨n, 0, [], rfl, by omega, by omega, hlit, ⟨?_, by simp⟩, below_new _ _⟩
    rw [List.drop_of_length_le (by rw [HL.out]; omega)]; rfl
  case round =>
    obtain ⟨j, m, us, rfl, hj, hm, hown, hst, hb⟩ := hrel
    clear hlit
    obtain ⟨Ao, co, rfl, hco, hul⟩ := own_form hown
    rcases Nat.eq_zero_or_pos j with h0 | h0
    · subst h0
      rw [List.drop_zero, HF.out] at hst
      have hm1 : m = 1 := by have := hst.1; rw [hul] at this; simpa using this
      subst hm1
      obtain ⟨u, hu⟩ := get_some (xs := us) (k := 0) (by omega)
      obtain ⟨A1, n1, c1, rfl, ho1⟩ := hst.2 0 u _ hu rfl
      obtain ⟨g, rfl, hg1, hg2, hc2, _⟩ := own_get hown hu
      clear hu
      go_wp2_with fail
      go_ret
      exact ⟨A1, n1, c1, rfl, ho1, hb⟩
    · obtain ⟨k, rfl⟩ : ∃ k, j = k + 1 := ⟨j - 1, by omega⟩
      have ek : (((k + 1 : Nat) : Int) - 1) = (k : Int) := by omega
      rw [ek]
      clear ek
      obtain ⟨y, hy⟩ := get_some (xs := es) (k := k) (by rw [HL.out]; omega)
      obtain ⟨blk, off, rfl, hbs, q0, q1⟩ := rdE hr hy
      replace q0 := (hb.cell (p := ⟨blk, off + k * 2, none⟩) hbs).trans q0
      have HML := Lib.hid (cstk_len es k)
      have hkn : k < n := by omega
      have HOK : Hid (okEl y = true) := Lib.hid (List.all_eq_true.1 HO.out y (List.mem_of_getElem? hy))
      have HY := Lib.hid hy
      obtain ⟨kd, v⟩ := y
      simp only at q0
      clear q1
      rcases fol_cases (kd, v) with hf | hf | hf
      · have HD : Hid (cstk (es.drop k) = cstk (es.drop (k + 1)) ++ [(Ex.leaf (kd, v)).code.bits]) := Lib.hid (by rw [drop_get hy, cstk_leaf _ hf])
        have hkd := kind_leaf HOK.out hf
        clear hy hf
        rcases hkd with rfl | rfl
        · go_wp2_with fail
          refine (l21Nil_any _).mono ?_
          rintro e w2 ⟨A2, n2, c2, rfl, ho2, hb2⟩
          have hn2 : n2 ≤ 1 := by have := ho2.1; simp at this; omega
          go_wp2_with fail
          refine (l23Item_any _ 0 (by omega) _ rfl _ _ _ .nil (own_rd ho2) (by omega)).mono ?_
          rintro e w3 ⟨A3, n3, c3, rfl, ho3, hb3⟩
          have hb23 := hb2.trans (hb3.mono hb2.size)
          have hown2 := own_below hown hb23 (Nat.le_refl _)
          have hst2 := hst.below hb23 (Nat.le_refl _)
          have hB2 := hb.trans (hb23.mono hb.size)
          go_wp2_with (at_builtin; go_must (refine wpList_app1g eltSB rfl _ _ rfl w3 w.heap.size _ m _ (by rfl) hown2 _ (by rfl) (by rfl) hB2.size (by omega) ?_; rintro A4 c4 w4 hown4 hb4 hg4))
          have hst4 := (hst2.snoc ho3 (Nat.le_trans hb.size hb2.size)).grown hown2 (by decide) hg4
          have hm4 : m + 1 ≤ 40 := by
            have h1 := hst4.1
            have h2 := HML.out
            rw [HD.out, HL.out] at h2
            simp [hul] at h1 h2
            omega
          go_roundw
          case rel => exact ⟨k, m + 1, _, rfl, by omega, hm4, hown4, by rw [HD.out]; exact hst4, hB2.trans hb4⟩
          case measure => simp only [intOf]; omega
        · go_wp2_with fail
          refine (l21Nil_any _).mono ?_
          rintro e w2 ⟨A2, n2, c2, rfl, ho2, hb2⟩
          have hn2 : n2 ≤ 1 := by have := ho2.1; simp at this; omega
          go_wp2_with fail
          refine (l23Item_any _ 1 (by omega) _ rfl _ _ _ .nil (own_rd ho2) (by omega)).mono ?_
          rintro e w3 ⟨A3, n3, c3, rfl, ho3, hb3⟩
          have hb23 := hb2.trans (hb3.mono hb2.size)
          have hown2 := own_below hown hb23 (Nat.le_refl _)
          have hst2 := hst.below hb23 (Nat.le_refl _)
          have hB2 := hb.trans (hb23.mono hb.size)
          go_wp2_with (at_builtin; go_must (refine wpList_app1g eltSB rfl _ _ rfl w3 w.heap.size _ m _ (by rfl) hown2 _ (by rfl) (by rfl) hB2.size (by omega) ?_; rintro A4 c4 w4 hown4 hb4 hg4))
          have hst4 := (hst2.snoc ho3 (Nat.le_trans hb.size hb2.size)).grown hown2 (by decide) hg4
          have hm4 : m + 1 ≤ 40 := by
            have h1 := hst4.1
            have h2 := HML.out
            rw [HD.out, HL.out] at h2
            simp [hul] at h1 h2
            omega
          go_roundw
          case rel => exact ⟨k, m + 1, _, rfl, by omega, hm4, hown4, by rw [HD.out]; exact hst4, hB2.trans hb4⟩
          case measure => simp only [intOf]; omega
      · obtain ⟨a, ts, hfe, hna⟩ := one_ex HSC.out (by rw [HL.out]; exact hn) hy hf
        obtain ⟨e1, e2⟩ := cstk_un hf hfe
        have HD : Hid (cstk (es.drop k) = (ts.map fun x => x.code.bits).reverse ++ [(Ex.un (kd, v) a).code.bits]) := Lib.hid (by rw [drop_get hy, e2])
        have hk2 := kind_un hf
        have b0 : (kd == 0) = false := by rcases hk2 with rfl | rfl <;> rfl
        have b1 : (kd == 1) = false := by rcases hk2 with rfl | rfl <;> rfl
        have hmm := markN_le kd
        rw [e1] at hst
        have hlen : us.length = ts.length + 1 := by rw [hst.1]; simp
        obtain rfl : m = ts.length + 1 := by omega
        have HT0 : Hid (((ts.map fun x => x.code.bits).reverse ++ [a.code.bits]).take ts.length = (ts.map fun x => x.code.bits).reverse) := Lib.hid (by
          rw [List.take_append_of_le_length (by simp), List.take_of_length_le (by simp)])
        have HQ0 : Hid (((ts.map fun x => x.code.bits).reverse ++ [a.code.bits])[ts.length]? = some a.code.bits) := Lib.hid (by rw [List.getElem?_append_right (by simp)]; simp)
        clear hy hf hfe e1 e2
        generalize (ts.map fun x => x.code.bits).reverse = rs at *
        generalize ts.length = p at *
        have HT := HT0
        obtain ⟨ua, hua⟩ := get_some (xs := us) (k := p) (by omega)
        obtain ⟨Aa, na, ca, rfl, hoa⟩ := hst.2 p ua a.code.bits hua HQ0.out
        obtain ⟨g, rfl, hg1, hg2, hca, _⟩ := own_get hown hua
        have hna' : na ≤ 1600 := by have := hoa.1; simp [Tr.bits_len] at this; omega
        generalize hmk : markN kd = mk at *
        have HMK := Lib.hid hmk
        have HNA := Lib.hid hna
        have hk2' := hk2
        clear hua hmk hlen hk2 HT0 HQ0 hna
        have q2 : ((p : Int) + 1 - 1) = (p : Int) := by omega
        have r3 : (0 : Int) ≤ (p : Int) := by omega
        have r4 : (p : Int) < (p : Int) + 1 := by omega
        have r1 : p < p + 1 := by omega
        have z2 : IntKind.i64.wrap (p : Int) = (p : Int) := IntWalk.i64_in _ (by omega)
        have ra := own_rd hoa
        have hkk : kd = 3 ∨ kd = 4 := hk2'
        rcases hkk with rfl | rfl
        all_goals
          clear hk2'
          go_wp2_with fail
          go_region_held3 (fun w' => w'.cell? ⟨g, p, none⟩ = some (.slice Aa na ca)) (exact hca) (first
            | (go_at_call 58
               refine (l21PairT_any _ _ _ _ a.code (by exact ra2) (by omega) _ _ _ (.node (tagTr 0) .nil) (by exact ri) (by omega)).mono ?_
               rintro e w3 ⟨A3, n3, c3, rfl, ho3, hb3⟩
               (try replace hb3 := und1 hb3)
               have hca := (hb3.cell (p := ⟨g, p, none⟩) hgi).trans hca)
            | (go_at_call 230
               refine (l23Item_any _ 0 (by omega) _ rfl _ _ _ .nil (by exact rn) (by omega)).mono ?_
               rintro e wi ⟨Ai, ni, ci, rfl, hoi, hbi⟩
               (try replace hbi := und1 hbi)
               have hca := (hbi.cell (p := ⟨g, p, none⟩) hgn).trans hca
               have ra2 := ran.below hbi (Nat.le_refl _)
               have ri := own_rd hoi
               have hni : ni ≤ 11 := by have h1 := hoi.1; simp [Tr.bits_len, Tr.nodes, tagTr] at h1; omega
               have hgi := Nat.lt_of_lt_of_le hgn hbi.size)
            | (go_at_call 82
               refine (l21Nil_any _).mono ?_
               rintro e wn ⟨An, nn, cn, rfl, hon, hbn⟩
               (try replace hbn := und1 hbn)
               have hca := (hbn.cell (p := ⟨g, p, none⟩) hg2).trans hca
               have ran := ra.below hbn (Nat.le_refl _)
               have rn := own_rd hon
               have hnn : nn ≤ 1 := by have := hon.1; simp at this; omega
               have hgn := Nat.lt_of_lt_of_le hg2 hbn.size))
          have hbX := (hbn.trans (hbi.mono hbn.size)).trans (hb3.mono (Nat.le_trans hbn.size hbi.size))
          replace ho3 := own_base ho3 (Nat.le_trans hbn.size hbi.size)
          replace hb3 := hbX
          have hn3 : n3 ≤ 1700 := by have h1 := ho3.1; have h2 := HNA.out; simp [Tr.bits_len, Tr.nodes, tagTr] at h1; omega
          clear hca ra ra2 ran rn ri hoi hon hbn hbi hoa hbX
          have hB3 := hb.trans (hb3.mono hb.size)
          have hown3 := own_take (own_below hown hb3 (Nat.le_refl _)) (k := p) (by omega)
          have hst3 := (hst.below hb3 (Nat.le_refl _)).take (k := p)
          rw [HT.out] at hst3
          have r7 : (p : Int) ≤ (co : Int) := by omega
          have r8 : p ≤ co := by omega
          have HUL := Lib.hid hul
          clear hown hst hul hb hb3
          go_wp2_with fail
          refine (l23Mark_any _ _).mono ?_
          rintro e w' ⟨rfl, rfl⟩
          rw [HMK.out]
          go_wp2_with fail
          refine (l21Nil_any _).mono ?_
          rintro e w4 ⟨A4, n4, c4, rfl, ho4, hb4⟩
          have hn4 : n4 ≤ 1 := by have := ho4.1; simp at this; omega
          go_wp2_with fail
          refine (l23Item_any _ mk (by omega) _ rfl _ _ _ .nil (own_rd ho4) (by omega)).mono ?_
          rintro e w5 ⟨A5, n5, c5, rfl, ho5, hb5⟩
          have hn5 : n5 ≤ 11 := by have h1 := ho5.1; have h2 := tag_nodes mk; simp [Tr.bits_len, Tr.nodes] at h1; omega
          have hb45 := hb4.trans (hb5.mono hb4.size)
          go_wp2_with fail
          refine (l21PairT_any _ _ _ _ (.node (tagTr mk) .nil) (own_rd ho5) (by omega) _ _ _ (.node a.code (.node (tagTr 0) .nil)) ((own_rd ho3).below hb45 (Nat.le_refl _)) (by omega)).mono ?_
          rintro e w6 ⟨A6, n6, c6, rfl, ho6, hb6⟩
          have hn6 : n6 ≤ 4000 := by have h1 := ho6.1; have h2 := tag_nodes mk; have h3 := ho3.1; simp only [List.length_map, Tr.bits_len, Tr.nodes] at h1 h3; omega
          have hb46 := hb45.trans (hb6.mono hb45.size)
          go_wp2_with fail
          refine (l23Item_any _ 2 (by omega) _ rfl _ _ _ (.node (.node (tagTr mk) .nil) (.node a.code (.node (tagTr 0) .nil))) (own_rd ho6) (by omega)).mono ?_
          rintro e w7 ⟨A7, n7, c7, rfl, ho7, hb7⟩
          have hb47 := hb46.trans (hb7.mono hb46.size)
          have hB7 := hB3.trans (hb47.mono hB3.size)
          have hown7 := own_below hown3 hb47 (Nat.le_refl _)
          have HE : Hid ((Tr.node (tagTr 2) (.node (.node (tagTr mk) .nil) (.node a.code (.node (tagTr 0) .nil)))).bits = (Ex.un (_, v) a).code.bits) := Lib.hid (by rw [← HMK.out]; rfl)
          rw [HE.out] at ho7
          have hst7 := (hst3.below hb47 (Nat.le_refl _)).snoc ho7 (Nat.le_trans hB3.size hb46.size)
          clear ho3 ho4 ho5 ho6 hb4 hb5 hb6 hb7 hb45 hb46 hown3 hst3
          go_wp2_with (at_builtin; go_must (refine wpList_app1g eltSB rfl _ _ rfl w7 w.heap.size _ p _ (by rfl) hown7 _ (by rfl) (by rfl) hB7.size (by omega) ?_; rintro A8 c8 w8 hown8 hb8 hg8))
          have hst8 := hst7.grown hown7 (by decide) hg8
          go_roundw
          case rel => exact ⟨k, p + 1, _, rfl, by omega, by omega, hown8, by rw [HD.out]; exact hst8, hB7.trans hb8⟩
          case measure => simp only [intOf]; omega
      · obtain ⟨a, b, ts, hfe, hna, hnb⟩ := two_ex HSC.out (by rw [HL.out]; exact hn) hy hf
        obtain ⟨e1, e2⟩ := cstk_bin hf hfe
        have HD : Hid (cstk (es.drop k) = (ts.map fun x => x.code.bits).reverse ++ [(Ex.bin (kd, v) a b).code.bits]) := Lib.hid (by rw [drop_get hy, e2])
        have hk2 := kind_bin hf
        have hmm := markN_le kd
        rw [e1] at hst
        have hlen : us.length = ts.length + 2 := by rw [hst.1]; simp
        obtain rfl : m = ts.length + 2 := by omega
        have HT : Hid (((ts.map fun x => x.code.bits).reverse ++ [b.code.bits, a.code.bits]).take ts.length = (ts.map fun x => x.code.bits).reverse) := Lib.hid (by
          rw [List.take_append_of_le_length (by simp), List.take_of_length_le (by simp)])
        have HQ0 : Hid (((ts.map fun x => x.code.bits).reverse ++ [b.code.bits, a.code.bits])[ts.length]? = some b.code.bits) := Lib.hid (by rw [List.getElem?_append_right (by simp)]; simp)
        have HQ1 : Hid (((ts.map fun x => x.code.bits).reverse ++ [b.code.bits, a.code.bits])[ts.length + 1]? = some a.code.bits) := Lib.hid (by rw [List.getElem?_append_right (by simp)]; simp)
        clear hy hf hfe e1 e2
        generalize (ts.map fun x => x.code.bits).reverse = rs at *
        generalize ts.length = p at *
        obtain ⟨ub, hub⟩ := get_some (xs := us) (k := p) (by omega)
        obtain ⟨ua, hua⟩ := get_some (xs := us) (k := p + 1) (by omega)
        obtain ⟨Ab, nb, cb, rfl, hob⟩ := hst.2 p ub b.code.bits hub HQ0.out
        obtain ⟨Aa, na, ca, rfl, hoa⟩ := hst.2 (p + 1) ua a.code.bits hua HQ1.out
        obtain ⟨g, rfl, hg1, hg2, hcb, _⟩ := own_get hown hub
        obtain ⟨g', hgg, _, _, hca, _⟩ := own_get hown hua
        obtain rfl : g = g' := by simpa using hgg
        have hna' : na ≤ 1600 := by have := hoa.1; simp [Tr.bits_len] at this; omega
        have hnb' : nb ≤ 1600 := by have := hob.1; simp [Tr.bits_len] at this; omega
        generalize hmk : markN kd = mk at *
        have HMK := Lib.hid hmk
        have HNA := Lib.hid hna
        have HNB := Lib.hid hnb
        have hk2' := hk2
        clear hub hua hgg hmk hlen hk2 HQ0 HQ1 hna hnb
        have q1 : ((p + 2 : Nat) : Int) - 1 = ((p + 1 : Nat) : Int) := by omega
        have q2 : ((p : Int) + 2 - 1) = (p : Int) + 1 := by omega
        have q3 : ((p : Int) + 1 - 1) = (p : Int) := by omega
        have r1 : p < p + 2 := by omega
        have r2 : p + 1 < p + 2 := by omega
        have r3 : (0 : Int) ≤ (p : Int) := by omega
        have r4 : (p : Int) < (p : Int) + 2 := by omega
        have r5 : (p : Int) + 1 < (p : Int) + 2 := by omega
        have r6 : (0 : Int) ≤ (p : Int) + 1 := by omega
        have z1 : IntKind.i64.wrap ((p : Int) + 1 - 1) = (p : Int) := by rw [q3]; exact IntWalk.i64_in _ (by omega)
        have z2 : IntKind.i64.wrap (p : Int) = (p : Int) := IntWalk.i64_in _ (by omega)
        have rb := own_rd hob
        have ra := own_rd hoa
        have hkk : kd = 2 ∨ kd = 5 := hk2'
        rcases hkk with rfl | rfl
        all_goals
          clear hk2'
          go_wp2_with fail
          go_region_held3 (fun w' => w'.cell? ⟨g, p, none⟩ = some (.slice Ab nb cb) ∧ w'.cell? ⟨g, p + 1, none⟩ = some (.slice Aa na ca)) (exact ⟨hcb, hca⟩) (first
            | (go_at_call 58
               refine (l21PairT_any _ _ _ _ a.code (by exact ra) (by omega) _ _ _ b.code (by exact rb) (by omega)).mono ?_
               rintro e w3 ⟨A3, n3, c3, rfl, ho3, hb3⟩
               (try replace hb3 := und1 hb3)
               have hcb := (hb3.cell (p := ⟨g, p, none⟩) hg2).trans hcb
               have hca := (hb3.cell (p := ⟨g, p + 1, none⟩) hg2).trans hca))
          have hn3 : n3 ≤ 3300 := by have h1 := ho3.1; have h2 := HNA.out; have h3 := HNB.out; simp [Tr.bits_len, Tr.nodes] at h1; omega
          clear hca hcb ra rb hoa hob
          have hB3 := hb.trans (hb3.mono hb.size)
          have hown3 := own_take (own_below hown hb3 (Nat.le_refl _)) (k := p) (by omega)
          have hst3 := (hst.below hb3 (Nat.le_refl _)).take (k := p)
          rw [HT.out] at hst3
          have r7 : (p : Int) ≤ (co : Int) := by omega
          have r8 : p ≤ co := by omega
          have HUL := Lib.hid hul
          clear hown hst hul hb hb3
          go_wp2_with fail
          refine (l23Mark_any _ _).mono ?_
          rintro e w' ⟨rfl, rfl⟩
          rw [HMK.out]
          go_wp2_with fail
          refine (l21Nil_any _).mono ?_
          rintro e w4 ⟨A4, n4, c4, rfl, ho4, hb4⟩
          have hn4 : n4 ≤ 1 := by have := ho4.1; simp at this; omega
          go_wp2_with fail
          refine (l23Item_any _ mk (by omega) _ rfl _ _ _ .nil (own_rd ho4) (by omega)).mono ?_
          rintro e w5 ⟨A5, n5, c5, rfl, ho5, hb5⟩
          have hn5 : n5 ≤ 11 := by have h1 := ho5.1; have h2 := tag_nodes mk; simp [Tr.bits_len, Tr.nodes] at h1; omega
          have hb45 := hb4.trans (hb5.mono hb4.size)
          go_wp2_with fail
          refine (l21PairT_any _ _ _ _ (.node (tagTr mk) .nil) (own_rd ho5) (by omega) _ _ _ (.node a.code b.code) ((own_rd ho3).below hb45 (Nat.le_refl _)) (by omega)).mono ?_
          rintro e w6 ⟨A6, n6, c6, rfl, ho6, hb6⟩
          have hn6 : n6 ≤ 4000 := by have h1 := ho6.1; have h2 := tag_nodes mk; have h3 := ho3.1; simp only [List.length_map, Tr.bits_len, Tr.nodes] at h1 h3; omega
          have hb46 := hb45.trans (hb6.mono hb45.size)
          go_wp2_with fail
          refine (l23Item_any _ 2 (by omega) _ rfl _ _ _ (.node (.node (tagTr mk) .nil) (.node a.code b.code)) (own_rd ho6) (by omega)).mono ?_
          rintro e w7 ⟨A7, n7, c7, rfl, ho7, hb7⟩
          have hb47 := hb46.trans (hb7.mono hb46.size)
          have hB7 := hB3.trans (hb47.mono hB3.size)
          have hown7 := own_below hown3 hb47 (Nat.le_refl _)
          have HE : Hid ((Tr.node (tagTr 2) (.node (.node (tagTr mk) .nil) (.node a.code b.code))).bits = (Ex.bin (_, v) a b).code.bits) := Lib.hid (by rw [← HMK.out]; rfl)
          rw [HE.out] at ho7
          have hst7 := (hst3.below hb47 (Nat.le_refl _)).snoc ho7 (Nat.le_trans hB3.size hb46.size)
          clear ho3 ho4 ho5 ho6 hb4 hb5 hb6 hb7 hb45 hb46 hown3 hst3
          go_wp2_with (at_builtin; go_must (refine wpList_app1g eltSB rfl _ _ rfl w7 w.heap.size _ p _ (by rfl) hown7 _ (by rfl) (by rfl) hB7.size (by omega) ?_; rintro A8 c8 w8 hown8 hb8 hg8))
          have hst8 := hst7.grown hown7 (by decide) hg8
          go_roundw
          case rel => exact ⟨k, p + 1, _, rfl, by omega, by omega, hown8, by rw [HD.out]; exact hst8, hB7.trans hb8⟩
          case measure => simp only [intOf]; omega
end Go.Proofs.YtadmbphefpfbmaaGreatDoor
/- CodeExpr: the reference's function. -/
namespace Go.Proofs.YtadmbphefpfbmaaGreatDoor
open Go.RowKit
set_option linter.unusedVariables false
set_option linter.unusedSimpArgs false
set_option maxHeartbeats 400000 in
theorem l21Fits_any (w : World) (A : Option Addr) (n c : Nat) (hn : n ≤ 2000) : Calls Tryz.prog 188 #[.slice A n c] w fun e w' => e = .returned (.tuple #[.slice A n c, .int .i64 0]) ∧ w = w' := by
  go_enter Tryz.func188, Tryz.ntmps188
  go_wp2_with fail
  go_ret2
  exact ⟨rfl, rfl⟩
theorem cexL_len (es : List El) : (cexL es).length ≤ 1000000 := by
  unfold cexL
  split
  · rename_i h
    rw [Tr.bits_len]
    omega
  · simp
end Go.Proofs.YtadmbphefpfbmaaGreatDoor
/- The contracts of the laws' own helpers on Expr and on slices of it. -/
namespace Go.Proofs.YtadmbphefpfbmaaGreatDoor
open Go.RowKit
set_option maxHeartbeats 400000 in
theorem eqExpr_any (w : World) (a0 a1 b0 b1 : Int) : Calls Tryz.prog 111 #[.agg #[.int .i64 a0, .int .i64 a1], .agg #[.int .i64 b0, .int .i64 b1]] w fun e w' => e = .returned (.bool (decide ([a0, a1] = [b0, b1]))) ∧ Below w.heap.size w w' := by
  go_enter Tryz.func111, Tryz.ntmps111
  go_wp2_with fail
  all_goals
    go_ret
    exact ⟨by simp_all, ((Below.refl _ _).alloc (Nat.le_refl _) _).alloc (by simp) _⟩
theorem eqExpr_same (w : World) (a0 a1 : Int) : Calls Tryz.prog 111 #[.agg #[.int .i64 a0, .int .i64 a1], .agg #[.int .i64 a0, .int .i64 a1]] w fun e w' => e = .returned (.bool true) ∧ Below w.heap.size w w' := by
  have h := eqExpr_any w a0 a1 a0 a1
  simpa using h
set_option maxHeartbeats 800000 in
theorem eqExprS_same (w : World) (A : Option Addr) (n c : Nat) (xs : List Int) (hr : Rd w A (n * 2) (ints xs)) (hn : n ≤ 1099511627776)
    (A' : Option Addr) (n' c' : Nat) (hr' : Rd w A' (n' * 2) (ints xs)) : Calls Tryz.prog 72 #[.slice A n c, .slice A' n' c'] w (RetV w (.bool true)) := by
  have hlen : xs.length = n * 2 := by simpa using hr.1
  have hlen' : xs.length = n' * 2 := by simpa using hr'.1
  obtain rfl : n = n' := by omega
  have HL := Lib.hid hlen; clear hlen hlen'
  go_enter Tryz.func72, Tryz.ntmps72
  go_wp2_with fail
  go_loopw [5] (fun i wr => ∃ k : Nat, k ≤ n ∧ i = .int .i64 k ∧ Below w.heap.size w wr) (fun i _ => n - (intOf i).toNat)
  case atStart => exact ⟨0, Nat.zero_le _, rfl, Below.refl _ _⟩
  case round =>
    obtain ⟨k, hk, rfl, hb⟩ := hrel
    by_cases hlt : k < n
    · have hpos : 0 < n * 2 := by omega
      obtain ⟨b, off, rfl, hbs, hc⟩ := hr.2 hpos
      obtain ⟨b', off', rfl, hbs', hc'⟩ := hr'.2 hpos
      obtain ⟨x0, h0⟩ := get_some (xs := xs) (k := k * 2) (by rw [HL.out]; omega)
      have q0 := (hb.cell (p := ⟨b, off + (k * 2), none⟩) hbs).trans (hc (k * 2) _ (ints_get h0))
      have p0 := (hb.cell (p := ⟨b', off' + (k * 2), none⟩) hbs').trans (hc' (k * 2) _ (ints_get h0))
      obtain ⟨x1, h1⟩ := get_some (xs := xs) (k := k * 2 + 1) (by rw [HL.out]; omega)
      have q1 := (hb.cell (p := ⟨b, off + (k * 2 + 1), none⟩) hbs).trans (hc (k * 2 + 1) _ (ints_get h1))
      have p1 := (hb.cell (p := ⟨b', off' + (k * 2 + 1), none⟩) hbs').trans (hc' (k * 2 + 1) _ (ints_get h1))
      rw [← Nat.add_assoc] at q1 p1
      clear hc hc' h0 h1
      go_wp2_with fail
      go_region_held3 (fun w' => w'.cell? ⟨b, off + k * 2, none⟩ = some (.int .i64 x0) ∧ w'.cell? ⟨b, off + k * 2 + 1, none⟩ = some (.int .i64 x1) ∧ w'.cell? ⟨b', off' + k * 2, none⟩ = some (.int .i64 x0) ∧ w'.cell? ⟨b', off' + k * 2 + 1, none⟩ = some (.int .i64 x1)) (exact ⟨q0, q1, p0, p1⟩) (first
        | (go_at_call 111
           refine (eqExpr_same _ _ _).mono ?_
           rintro e w2 ⟨rfl, hb2⟩
           (try replace hb2 := below_undrew hb2)
           (try replace hb2 := below_undrewN hb2)
           have q0 := (hb2.cell (p := ⟨b, off + k * 2, none⟩) (Nat.lt_of_lt_of_le hbs hb.size)).trans q0
           have p0 := (hb2.cell (p := ⟨b', off' + k * 2, none⟩) (Nat.lt_of_lt_of_le hbs' hb.size)).trans p0
           have q1 := (hb2.cell (p := ⟨b, off + k * 2 + 1, none⟩) (Nat.lt_of_lt_of_le hbs hb.size)).trans q1
           have p1 := (hb2.cell (p := ⟨b', off' + k * 2 + 1, none⟩) (Nat.lt_of_lt_of_le hbs' hb.size)).trans p1
           ))
      go_wp2_with fail
      go_roundw
      case rel => exact ⟨k + 1, by omega, by go_num, hb.trans (hb2.mono hb.size)⟩
      case measure => simp [intOf]; omega
    · go_wp2_with fail
      go_ret
      exact ⟨rfl, hb⟩
set_option maxHeartbeats 1600000 in
theorem markExprS_any (w : World) (base : Nat) (A : Option Addr) (n c : Nat) (xs : List Int) (ho : w.ownsRow base 110 2 (.slice A n c) n (ints xs)) (hn : n ≤ 1099511627776) (k : Int) (hk0 : 0 ≤ k) (hk1 : k ≤ 1099511627776) :
    Calls Tryz.prog 40 #[.slice A n c, .int .i64 k] w fun e w' => e = .returned (.int .i64 (k + (n : Int) * 2)) ∧ w'.ownsRow base 110 2 (.slice A n c) n (ints (up k (n * 2))) ∧ w.grownBy w' (Value.ownBlock (.slice A n c)) := by
  have hlen : xs.length = n * 2 := by simpa using ho.1
  have HL := Lib.hid hlen; clear hlen
  go_enter Tryz.func40, Tryz.ntmps40
  go_wp2_with fail
  go_loopw [1, 5] (fun q i wr => ∃ j : Nat, j ≤ n ∧ i = .int .i64 j ∧ q = .int .i64 (k + (j : Int) * 2) ∧ wr.ownsRow base 110 2 (.slice A n c) n (ints (up k (j * 2) ++ xs.drop (j * 2))) ∧ w.grownBy wr (Value.ownBlock (.slice A n c))) (fun _ i _ => n - (intOf i).toNat)
  case atStart => exact ⟨0, Nat.zero_le _, rfl, by simp, by simpa [up] using ho, World.grownBy.refl _ _⟩
  case round =>
    obtain ⟨j, hj, rfl, rfl, hown, hg⟩ := hrel
    clear ho
    by_cases hlt : j < n
    · have HKS : Hid ((j + 1) * 2 = j * 2 + 2) := Lib.hid (by omega)
      obtain ⟨u0, hu0⟩ := markN_get k xs (n * 2) (j * 2) 0 HL.out (by omega)
      obtain ⟨g, rfl, hbg, hgs, _, _⟩ := ownN_get hown hu0
      obtain ⟨v0, e0⟩ := markN_get k xs (n * 2) (j * 2) 0 HL.out (by omega)
      obtain ⟨r0, f0⟩ := ownN_at hown e0
      obtain ⟨v1, e1⟩ := markN_get k xs (n * 2) (j * 2) 1 HL.out (by omega)
      obtain ⟨r1, f1⟩ := ownN_at hown e1
      rw [Nat.add_zero] at r0 f0
      have HS := Lib.hid (ownN_put (ownN_put hown (j * 2) (.int .i64 (k + (j : Int) * 2))) (j * 2 + 1) (.int .i64 (k + (j : Int) * 2 + 1)))
      have HG := Lib.hid hg
      clear hu0 e0 e1 hown hg
      go_wp2_with fail
      go_roundw
      case rel =>
        refine ⟨j + 1, by omega, by go_num, by congr 1; omega, ?_, ?_⟩
        · have e := HS.out
          rw [mark2 HL.out (by omega) (by omega) (by omega)] at e
          rw [HKS.out]
          exact e
        · exact ((HG.out).trans (grown_set _ _ _ _)).trans (grown_set _ _ _ _)
      case measure => simp [intOf]; omega
    · go_wp2_with fail
      go_ret
      obtain rfl : j = n := by omega
      refine ⟨rfl, ?_, hg⟩
      simpa [List.drop_of_length_le (Nat.le_of_eq HL.out)] using hown
set_option maxHeartbeats 1600000 in
theorem heldExprS_any (w : World) (A : Option Addr) (n c : Nat) (k : Int) (hr : Rd w A (n * 2) (ints (up k (n * 2)))) (hn : n ≤ 1099511627776) (hk0 : 0 ≤ k) (hk1 : k ≤ 1099511627776) :
    Calls Tryz.prog 41 #[.slice A n c, .int .i64 k] w (RetV w (.int .i64 (k + (n : Int) * 2))) := by
  go_enter Tryz.func41, Tryz.ntmps41
  go_wp2_with fail
  go_loopw [1, 5] (fun q i wr => ∃ j : Nat, j ≤ n ∧ i = .int .i64 j ∧ q = .int .i64 (k + (j : Int) * 2) ∧ Below w.heap.size w wr) (fun _ i _ => n - (intOf i).toNat)
  case atStart => exact ⟨0, Nat.zero_le _, rfl, by simp, Below.refl _ _⟩
  case round =>
    obtain ⟨j, hj, rfl, rfl, hb⟩ := hrel
    by_cases hlt : j < n
    · obtain ⟨b, off, rfl, hbs, hc⟩ := hr.2 (by omega)
      have q0 : wr.cell? ⟨b, off + (j * 2), none⟩ = some (.int .i64 (k + (j : Int) * 2)) := (hb.cell (p := ⟨b, off + (j * 2), none⟩) hbs).trans (hc (j * 2) _ (by rw [ints_get (up_get k _ _ (by omega))]; exact sI (by omega)))
      have q1 : wr.cell? ⟨b, off + (j * 2 + 1), none⟩ = some (.int .i64 (k + (j : Int) * 2 + 1)) := (hb.cell (p := ⟨b, off + (j * 2 + 1), none⟩) hbs).trans (hc (j * 2 + 1) _ (by rw [ints_get (up_get k _ _ (by omega))]; exact sI (by omega)))
      rw [← Nat.add_assoc] at q1
      clear hc
      go_wp2_with fail
      go_roundw
      case rel => exact ⟨j + 1, by omega, by go_num, by congr 1; omega, hb⟩
      case measure => simp [intOf]; omega
    · go_wp2_with fail
      go_ret
      obtain rfl : j = n := by omega
      exact ⟨rfl, hb⟩
end Go.Proofs.YtadmbphefpfbmaaGreatDoor
