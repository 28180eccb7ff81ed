/- Reading expressions back from their codes, in plain Lean; what the functions on codes answer. -/
import Derived.Test.YtilbgbibddjdcaaExM
namespace Go.Proofs.Ytilbgbibddjdcaa
open Go.RowKit

def isNil1 : List El → Bool
  | [x] => x.1 == 0
  | _ => false
def comb (mk : Tr) : Option (List El) → Option (List El) → Option (List El)
  | some x, some y =>
    if mk.beq (tagTr 3) then some ((2, 0) :: (x ++ y)) else if mk.beq (tagTr 4) then (if isNil1 y then some ((3, 0) :: x) else none)
    else if mk.beq (tagTr 5) then (if isNil1 y then some ((4, 0) :: x) else none) else if mk.beq (tagTr 6) then some ((5, 0) :: (x ++ y)) else none
  | _, _ => none
def backT : Tr → Option (List El)
  | .nil => none
  | .node tag .nil => if tag.beq (tagTr 0) then some [(0, 0)] else if tag.beq (tagTr 1) then some [(1, 0)] else none
  | .node tag (.node (.node mk .nil) (.node a b)) => if tag.beq (tagTr 2) then comb mk (backT a) (backT b) else none
  | _ => none
theorem comb_len {mk : Tr} {x y : Option (List El)} {z : List El} {n m : Nat} (h : comb mk x y = some z) (hx : ∀ u, x = some u → u.length ≤ n) (hy : ∀ u, y = some u → u.length ≤ m) : z.length ≤ n + m + 1 := by
  match x, y, h, hx, hy with
  | some x, some y, h, hx, hy =>
    have h1 := hx x rfl
    have h2 := hy y rfl
    simp only [comb] at h
    split at h
    · cases h; simp; omega
    · split at h
      · split at h
        · cases h; simp; omega
        · cases h
      · split at h
        · split at h
          · cases h; simp; omega
          · cases h
        · split at h
          · cases h; simp; omega
          · cases h
  | none, _, h, _, _ => simp [comb] at h
  | some _, none, h, _, _ => simp [comb] at h
theorem backT_len : ∀ (t : Tr) (z : List El), backT t = some z → z.length ≤ t.nodes
  | .nil, z, h => by simp [backT] at h
  | .node tag .nil, z, h => by
    simp only [backT] at h
    split at h
    · cases h; simp [Tr.nodes]
    · split at h
      · cases h; simp [Tr.nodes]
      · cases h
  | .node tag (.node (.node mk .nil) (.node a b)), z, h => by
    simp only [backT] at h
    split at h
    · have := comb_len h (backT_len a) (backT_len b)
      simp only [Tr.nodes]; omega
    · cases h
  | .node tag (.node .nil _), z, h => by simp [backT] at h
  | .node tag (.node (.node _ (.node _ _)) _), z, h => by simp [backT] at h
  | .node tag (.node (.node _ .nil) .nil), z, h => by simp [backT] at h
/-- The tree of bits. -/
def treeB (bs : List Bool) : Tr := (forest bs).headD .nil
theorem treeB_bits (t : Tr) : treeB t.bits = t := by simp [treeB, forest_bits]
def codeE (es : List El) : Tr := ((forestE es).headD (.leaf (0, 0))).code
theorem codeE_els {e : Ex} (h : e.good) : codeE e.els = e.code := by
  have := forestE_els e [] h
  simp only [List.append_nil] at this
  simp [codeE, this]
def only0 (es : List El) : Bool := es.all fun x => x.2 == 0
def cexL (es : List El) : List Bool := if wfE es = true ∧ only0 es = true ∧ (codeE es).nodes ≤ 2000 then (codeE es).bits else []
def cexC (es : List El) : Int := if wfE es then (if only0 es then (if (codeE es).nodes ≤ 2000 then 0 else 5) else 2) else 1
def dexL (bs : List Bool) : List El := if isTr bs then (match backT (treeB bs) with | some z => if z.length ≤ 40 then z else [] | none => []) else []
def dexC (bs : List Bool) : Int := if isTr bs then (match backT (treeB bs) with | some z => if z.length ≤ 40 then 0 else 5 | none => 9) else 1
end Go.Proofs.Ytilbgbibddjdcaa
