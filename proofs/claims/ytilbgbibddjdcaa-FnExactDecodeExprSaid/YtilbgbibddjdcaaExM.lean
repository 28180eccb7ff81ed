/- Expressions in plain Lean: elements, the scan, the expressions of a suffix, codes. -/
import Derived.Test.YtilbgbibddjdcaaTagM
namespace Go.Proofs.Ytilbgbibddjdcaa
open Go.RowKit

abbrev El := Int × Int
def fol (x : El) : Nat := if x.1 = 3 ∨ x.1 = 4 then 1 else if x.1 = 2 ∨ x.1 = 5 then 2 else 0
theorem fol_le (x : El) : fol x ≤ 2 := by unfold fol; split <;> (try split) <;> omega
inductive Ex where
  | leaf (x : El)
  | un (x : El) (a : Ex)
  | bin (x : El) (a b : Ex)
def Ex.els : Ex → List El
  | .leaf x => [x]
  | .un x a => x :: a.els
  | .bin x a b => x :: (a.els ++ b.els)
def Ex.top : Ex → El
  | .leaf x => x
  | .un x _ => x
  | .bin x _ _ => x
def Ex.good : Ex → Prop
  | .leaf x => fol x = 0
  | .un x a => fol x = 1 ∧ a.good
  | .bin x a b => fol x = 2 ∧ a.good ∧ b.good
theorem Ex.els_pos : ∀ e : Ex, 1 ≤ e.els.length
  | .leaf x => Nat.le_refl _
  | .un x a => by simp [Ex.els]
  | .bin x a b => by simp [Ex.els]
theorem Ex.els_top (e : Ex) : e.els[0]? = some e.top := by cases e <;> rfl
def scanE : List El → Nat → Option (List El)
  | r, 0 => some r
  | [], _ + 1 => none
  | x :: r, n + 1 => scanE r (n + fol x)
theorem scanE_els : ∀ (e : Ex) (r : List El) (n : Nat), e.good → scanE (e.els ++ r) (n + 1) = scanE r n
  | .leaf x, r, n, h => by simp [Ex.els, scanE, show fol x = 0 from h]
  | .un x a, r, n, h => by
    show scanE (a.els ++ r) (n + fol x) = _
    rw [h.1, scanE_els a r n h.2]
  | .bin x a b, r, n, h => by
    have e : (Ex.bin x a b).els ++ r = x :: (a.els ++ (b.els ++ r)) := by simp [Ex.els]
    rw [e]
    show scanE (a.els ++ (b.els ++ r)) (n + fol x) = _
    rw [h.1, scanE_els a _ (n + 1) h.2.1, scanE_els b _ n h.2.2]
def forestE : List El → List Ex
  | [] => []
  | x :: r => match fol x, forestE r with
    | 0, ts => .leaf x :: ts
    | 1, a :: ts => .un x a :: ts
    | 2, a :: b :: ts => .bin x a b :: ts
    | _, ts => ts
theorem forestE_leaf {x : El} (r : List El) (h : fol x = 0) : forestE (x :: r) = .leaf x :: forestE r := by simp [forestE, h]
theorem forestE_un {x : El} {r : List El} {a : Ex} {ts : List Ex} (h : fol x = 1) (e : forestE r = a :: ts) : forestE (x :: r) = .un x a :: ts := by simp [forestE, h, e]
theorem forestE_bin {x : El} {r : List El} {a b : Ex} {ts : List Ex} (h : fol x = 2) (e : forestE r = a :: b :: ts) : forestE (x :: r) = .bin x a b :: ts := by simp [forestE, h, e]
theorem fol_cases (x : El) : fol x = 0 ∨ fol x = 1 ∨ fol x = 2 := by have := fol_le x; omega
theorem scanE_forest : ∀ (es : List El) (n : Nat), scanE es n = some [] → (forestE es).length = n ∧ (forestE es).flatMap Ex.els = es ∧ ∀ t ∈ forestE es, t.good
  | [], 0, _ => by simp [forestE]
  | [], n + 1, h => by simp [scanE] at h
  | x :: r, 0, h => by simp [scanE] at h
  | x :: r, n + 1, h => by
    obtain ⟨h1, h2, h3⟩ := scanE_forest r (n + fol x) h
    rcases fol_cases x with e | e | e
    · rw [forestE_leaf r e]
      refine ⟨by simp [h1, e], by simp [h2, Ex.els], ?_⟩
      intro t ht
      rcases List.mem_cons.1 ht with rfl | ht
      · exact e
      · exact h3 t ht
    · match hf : forestE r, h1, h2, h3 with
      | a :: ts, h1, h2, h3 =>
        rw [forestE_un e hf]
        refine ⟨by simp at h1 ⊢; omega, by rw [← h2]; simp [Ex.els], ?_⟩
        intro t ht
        rcases List.mem_cons.1 ht with rfl | ht
        · exact ⟨e, h3 a (by simp)⟩
        · exact h3 t (by simp [ht])
      | [], h1, _, _ => simp at h1; omega
    · match hf : forestE r, h1, h2, h3 with
      | a :: b :: ts, h1, h2, h3 =>
        rw [forestE_bin e hf]
        refine ⟨by simp at h1 ⊢; omega, by rw [← h2]; simp [Ex.els], ?_⟩
        intro t ht
        rcases List.mem_cons.1 ht with rfl | ht
        · exact ⟨e, h3 a (by simp), h3 b (by simp)⟩
        · exact h3 t (by simp [ht])
      | [_], h1, _, _ => simp at h1; omega
      | [], h1, _, _ => simp at h1; omega
def okEl (x : El) : Bool := inB x.1 0 5 && inB x.2 0 5 && (x.1 == 1 || x.2 == 0)
def wfE (es : List El) : Bool := decide (1 ≤ es.length ∧ es.length ≤ 40) && es.all okEl && (scanE es 1 == some [])
theorem wfE_ex {es : List El} (h : wfE es = true) : ∃ x : Ex, es = x.els ∧ x.good ∧ es.length ≤ 40 ∧ es.all okEl = true := by
  simp only [wfE, Bool.and_eq_true, decide_eq_true_eq, beq_iff_eq] at h
  obtain ⟨h1, h2, h3⟩ := scanE_forest es 1 h.2
  match hf : forestE es, h1, h2, h3 with
  | [t], _, h2, h3 => exact ⟨t, by rw [← h2]; simp, h3 t (by simp), h.1.1.2, h.1.2⟩
theorem wfE_els {x : Ex} (hg : x.good) (hl : x.els.length ≤ 40) (ho : x.els.all okEl = true) : wfE x.els = true := by
  have e := scanE_els x [] 0 hg
  simp only [List.append_nil] at e
  simp only [wfE, Bool.and_eq_true, decide_eq_true_eq, beq_iff_eq]
  exact ⟨⟨⟨x.els_pos, hl⟩, ho⟩, by rw [e]; rfl⟩
theorem forestE_els : ∀ (e : Ex) (r : List El), e.good → forestE (e.els ++ r) = e :: forestE r
  | .leaf x, r, h => forestE_leaf r h
  | .un x a, r, h => forestE_un h.1 (forestE_els a r h.2)
  | .bin x a b, r, h => by
    have e : (Ex.bin x a b).els ++ r = x :: (a.els ++ (b.els ++ r)) := by simp [Ex.els]
    rw [e]
    exact forestE_bin h.1 (by rw [forestE_els a _ h.2.1, forestE_els b _ h.2.2])
/-- The mark's tag of a kind with operands. -/
def markN (k : Int) : Nat := if k = 2 then 3 else if k = 3 then 4 else if k = 4 then 5 else 6
theorem markN_le (k : Int) : markN k ≤ 6 := by unfold markN; split <;> (try split) <;> (try split) <;> omega
def Ex.code : Ex → Tr
  | .leaf x => .node (tagTr (if x.1 = 0 then 0 else 1)) .nil
  | .un x a => .node (tagTr 2) (.node (.node (tagTr (markN x.1)) .nil) (.node a.code (.node (tagTr 0) .nil)))
  | .bin x a b => .node (tagTr 2) (.node (.node (tagTr (markN x.1)) .nil) (.node a.code b.code))
theorem Ex.code_nodes : ∀ e : Ex, e.code.nodes ≤ 40 * e.els.length
  | .leaf x => by
    have := tag_nodes (if x.1 = 0 then 0 else 1)
    simp only [Ex.code, Tr.nodes, Ex.els, List.length_singleton]; omega
  | .un x a => by
    have h1 := tag_nodes 2
    have h2 := tag_nodes (markN x.1)
    have h3 := tag_nodes 0
    have h4 := a.code_nodes
    simp only [Ex.code, Tr.nodes, Ex.els, List.length_cons]; omega
  | .bin x a b => by
    have h1 := tag_nodes 2
    have h2 := tag_nodes (markN x.1)
    have h4 := a.code_nodes
    have h5 := b.code_nodes
    simp only [Ex.code, Tr.nodes, Ex.els, List.length_cons, List.length_append]; omega
end Go.Proofs.Ytilbgbibddjdcaa
