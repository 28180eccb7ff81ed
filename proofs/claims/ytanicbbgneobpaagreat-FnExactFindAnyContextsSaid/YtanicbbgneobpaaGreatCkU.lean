/- CheckContexts (reference): l29Check. -/
import Derived.Test.YtanicbbgneobpaaGreatCkT
import Derived.Deep.OwnRows
namespace Go.Proofs.YtanicbbgneobpaaGreat
open Go.RowKit
set_option linter.unusedVariables false
set_option linter.unusedSimpArgs false
theorem spt_of {w : World} {g : Nat} {m : Int} {A1 A2 A3 A4 : Option Addr} {n1 c1 n2 c2 n3 c3 n4 c4 base : Nat} {u1 u2 u3 : List Value} {ls ws cs : List (List Int)} {sts : List Int} (hbs : BS w g m A1 n1 c1 A2 n2 c2 A3 n3 c3 A4 n4 c4)
    (o1 : OwnX w A1 n1 c1 u1 ls) (o2 : OwnX w A2 n2 c2 u2 ws) (o3 : OwnX w A3 n3 c3 u3 cs) (o4 : w.ownsRow base 2 1 (.slice A4 n4 c4) n4 (ints sts)) (h1 : ls.length ≤ 1000000) (h2 : ws.length ≤ 1000000) (h3 : cs.length ≤ 1000000) (he : sts.length = cs.length) : SPt w g m A1 n1 c1 A2 n2 c2 A3 n3 c3 A4 n4 c4 ls ws cs sts := by
  have l1 := o1.ownp.rdl.len; have l2 := o2.ownp.rdl.len; have l3 := o3.ownp.rdl.len
  refine ⟨hbs, o1.ownp.rdl, o2.ownp.rdl, o3.ownp.rdl, own_rd o4, by omega, by omega, by omega, he, ?_⟩
  intro k b off A' n' c' hA hk hc
  obtain ⟨hown, hin⟩ := o3
  have hul : u3.length = n3 := by simpa using hown.1
  obtain ⟨u, hu⟩ := get_some (xs := u3) (k := k) (by omega)
  obtain ⟨x, hx⟩ := get_some (xs := cs) (k := k) (by omega)
  obtain ⟨A6, n6, c6, rfl, _, ho, _⟩ := hin.2.1 k u x hu hx
  obtain ⟨g', hg', _, _, hcell, _⟩ := own_get hown hu
  rw [hA] at hg'
  injection hg' with hg'
  injection hg' with e1 e2
  subst e1 e2
  rw [Nat.zero_add] at hc
  rw [hcell] at hc
  injection hc with hc
  injection hc with e3 e4 e5
  subst e4 e5
  exact ownN_cap ho
/-- What l29Check answers. -/
def chkR (s t : Int) (rs : List Rul) (k : Int) (ns : List Int) (ws : List (List Int)) : Bool :=
  csOk k ns ws && fitB s t (lefts ns ws) (rights ns ws) (ns.drop 3) (ctxs ns ws) && blankB (pN ns).toNat (lefts ns ws) (rights ns ws) (ns.drop 3) (ctxs ns ws) && allTo (closAt s t rs (lefts ns ws) (rights ns ws) (ns.drop 3) (ctxs ns ws)) (ctxs ns ws).length
theorem chkR_no {s t : Int} {rs : List Rul} {k : Int} {ns : List Int} {ws : List (List Int)} (h : csOk k ns ws = false) : chkR s t rs k ns ws = false := by unfold chkR; rw [h]; rfl
theorem chkR_fit {s t : Int} {rs : List Rul} {k : Int} {ns : List Int} {ws : List (List Int)} (h : fitB s t (lefts ns ws) (rights ns ws) (ns.drop 3) (ctxs ns ws) = false) : chkR s t rs k ns ws = false := by unfold chkR; rw [h]; simp
theorem chkR_blank {s t : Int} {rs : List Rul} {k : Int} {ns : List Int} {ws : List (List Int)} (h : blankB (pN ns).toNat (lefts ns ws) (rights ns ws) (ns.drop 3) (ctxs ns ws) = false) : chkR s t rs k ns ws = false := by unfold chkR; rw [h]; simp
theorem chkR_yes {s t : Int} {rs : List Rul} {k : Int} {ns : List Int} {ws : List (List Int)} (h1 : csOk k ns ws = true) (h2 : fitB s t (lefts ns ws) (rights ns ws) (ns.drop 3) (ctxs ns ws) = true) (h3 : blankB (pN ns).toNat (lefts ns ws) (rights ns ws) (ns.drop 3) (ctxs ns ws) = true) : chkR s t rs k ns ws = allTo (closAt s t rs (lefts ns ws) (rights ns ws) (ns.drop 3) (ctxs ns ws)) (ctxs ns ws).length := by unfold chkR; rw [h1, h2, h3]; rfl
theorem run_mk1 (n : Nat) (hn : n ≤ 100000) (w : World) : (Instr.makeSlice 25 (.int .i64 (n : Int)) (.int .i64 (n : Int))).run Tryz.prog w = .ok (.slice (some ⟨w.heap.size, 0, none⟩) n n) (w.alloc (.cells (madeCells #[.int .i64 0] n) 2)) := by
  obtain ⟨ht, hzc, i, hi, hz, hs1, hb⟩ := Tryz.eltI
  have hbn : i.bytes * n ≤ 24 * n := Nat.mul_le_mul_right _ hb
  exact run_make_row _ _ i _ ht hi hz hs1 hzc .i64 .i64 n (by omega) (by omega) w
theorem rd_made (n : Nat) (hn : n ≤ 100000) (w : World) : Rd (w.alloc (.cells (madeCells #[.int .i64 0] n) 2)) (some ⟨w.heap.size, 0, none⟩) n (ints (List.replicate n 0)) := by
  have e : (madeCells #[Value.int .i64 0] n).toList = ints (List.replicate n 0) := by rw [toList_madeCells_one]; simp only [ints, List.map_replicate]
  have hs : (madeCells #[Value.int .i64 0] n).size = n := by have h := congrArg List.length e; simpa using h
  have h := own_rd (own_lit w (madeCells #[.int .i64 0] n) n 2 hs (by omega))
  rwa [e] at h
end Go.Proofs.YtanicbbgneobpaaGreat
