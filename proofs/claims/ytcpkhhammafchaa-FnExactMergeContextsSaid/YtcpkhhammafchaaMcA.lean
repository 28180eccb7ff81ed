/- MergeContexts: small words of memory. Written by mk_mc.py. -/
import Derived.Test.YtcpkhhammafchaaFdM
import Derived.Test.YtcpkhhammafchaaPq
import Derived.Test.YtcpkhhammafchaaPp
namespace Go.Proofs.Ytcpkhhammafchaa
open Go.RowKit
set_option linter.unusedVariables false
set_option linter.unusedSimpArgs false
theorem bq_al {a W : World} {o : Obj} (h : Below a.heap.size a W) : Below a.heap.size a (W.alloc o) := h.alloc h.size _
theorem bq_dr {a W : World} (h : Below a.heap.size a W) : Below a.heap.size a W.drew := ⟨h.os, h.tape, h.output, h.size, h.block⟩
theorem bq_dn {a W : World} {n : Nat} (h : Below a.heap.size a W) : Below a.heap.size a (W.drewN n) := ⟨h.os, h.tape, h.output, h.size, h.block⟩
theorem bq_set {a W : World} {g i : Nat} {v : Value} (h : Below a.heap.size a W) (hg : a.heap.size ≤ g) : Below a.heap.size a (W.setCell ⟨g, i, none⟩ v) := h.setCell hg v
theorem bq_call {a V W : World} (hc : Below V.heap.size V W) (h : Below a.heap.size a V) : Below a.heap.size a W := h.trans (hc.mono h.size)
theorem pfp_bel {w w1 w2 : World} {r : ResF} {e : Ending} (h : PfP w r e w1) (hb : Below w1.heap.size w1 w2) : PfP w r e w2 := by
  obtain ⟨A, n, c, B, m, d, F, rfl, ho, hp, hF, hd, hb2⟩ := h
  exact ⟨A, n, c, B, m, d, F, rfl, ownN_below ho hb (Nat.le_refl _), hp.below hb, fun k hk => ⟨(hF k hk).1, Nat.lt_of_lt_of_le (hF k hk).2 hb.size⟩, hd, hb2.trans (hb.mono hb2.size)⟩
theorem pfp_set {w w0 wx : World} {r : ResF} {e : Ending} {q : Nat} {v0 v1 v2 : Value} (h : PfP w0 r e wx) (hb : Below w.heap.size w w0) (hq : w.heap.size ≤ q) (hq0 : q < w0.heap.size) : PfP w r e (((wx.setCell ⟨q, 0, none⟩ v0).setCell ⟨q, 1, none⟩ v1).setCell ⟨q, 2, none⟩ v2) := by
  obtain ⟨A, n, c, B, m, d, _, _, h2⟩ := pfp_on h hb
  exact h2 q v0 v1 v2 hq hq0
theorem prF_chR {N n1 n2 : Nat} {S : St3} (h1 : S.l.length = n1) (h2 : S.r.length = n2) : chR ([(N : Int), (n1 : Int), (n2 : Int)] ++ S.c.map (fun x => x.getD 0 0)) (S.l ++ S.r ++ S.c.map (fun x => x.drop 1)) = prF N S := by
  subst h1 h2; rfl
theorem prF_no {N : Nat} {S : St3} (h : okF N S = false) : prF N S = (0, [], [], 5) := by
  unfold prF; unfold okF at h; rw [h]; rfl
theorem prF_ok {N : Nat} {S : St3} (h : okF N S = true) : ∃ ns ws, prF N S = (8, ns, ws, 0) := by
  unfold prF; unfold okF at h; rw [h]; exact ⟨_, _, rfl⟩
/-- The box of the sets, made ahead of the sorting or behind it. -/
def BxP (w : World) (N : Nat) (S : St3) (g : Nat) (W : World) : Prop := ∃ (A1 : Option Addr) (n1 c1 : Nat) (A2 : Option Addr) (n2 c2 : Nat) (A3 : Option Addr) (n3 c3 : Nat) (us3 : List Value), W.heap[g]? = some (.cells #[.int .i64 N, .slice A1 n1 c1, .slice A2 n2 c2, .slice A3 n3 c3] 125 (0, 0)) ∧ RdL W A1 n1 S.l ∧ RdL W A2 n2 S.r ∧ OwnX W A3 n3 c3 us3 S.c ∧ Below w.heap.size w W
theorem bxp_new {w w3 : World} {N : Nat} {S : St3} {A1 A2 A3 : Option Addr} {n1 c1 n2 c2 n3 c3 : Nat} {F1 F2 F3 : Nat → Prop} (h1 : OwnP w3 F1 A1 n1 c1 S.l) (h2 : OwnP w3 F2 A2 n2 c2 S.r) (h3 : OwnP w3 F3 A3 n3 c3 S.c) (hb : Below w.heap.size w w3) : BxP w N S w3.heap.size (w3.alloc (.cells #[.int .i64 N, .slice A1 n1 c1, .slice A2 n2 c2, .slice A3 n3 c3] 125)) := by
  obtain ⟨us, hx, _⟩ := ownp_x (h3.below (below_new w3 (.cells #[.int .i64 N, .slice A1 n1 c1, .slice A2 n2 c2, .slice A3 n3 c3] 125)))
  exact ⟨A1, n1, c1, A2, n2, c2, A3, n3, c3, us, box_new _ _ _, (h1.below (below_new w3 _)).rdl, (h2.below (below_new w3 _)).rdl, hx, hb.alloc hb.size _⟩
theorem bxp_drw {w W : World} {N g : Nat} {S : St3} (h : BxP w N S g W) : BxP w N S g W.drew := by
  obtain ⟨A1, n1, c1, A2, n2, c2, A3, n3, c3, us, h1, h2, h3, h4, h5⟩ := h
  have hb : Below W.heap.size W W.drew := below_drew1 (Below.refl _ _)
  exact ⟨A1, n1, c1, A2, n2, c2, A3, n3, c3, us, blk_bel h1 hb, h2.below hb (Nat.le_refl _), h3.below hb (Nat.le_refl _), h4.below hb, below_drew1 h5⟩
theorem ch_set4 (wx : World) (r : Nat) (v0 v1 v2 v3 : Value) : Ch (· = r) wx ((((wx.setCell ⟨r, 0, none⟩ v0).setCell ⟨r, 1, none⟩ v1).setCell ⟨r, 2, none⟩ v2).setCell ⟨r, 3, none⟩ v3) := (((ch_set _ _ 0 _).trans (ch_set _ _ 1 _)).trans (ch_set _ _ 2 _)).trans (ch_set _ _ 3 _)
theorem bxp_set {w w3 : World} {N g : Nat} {S : St3} {A1 A2 A3 : Option Addr} {n1 c1 n2 c2 n3 c3 : Nat} {F1 F2 F3 : Nat → Prop} {u0 u1 u2 u3 : Value} (h1 : OwnP w3 F1 A1 n1 c1 S.l) (h2 : OwnP w3 F2 A2 n2 c2 S.r) (h3 : OwnP w3 F3 A3 n3 c3 S.c) (hb : Below w.heap.size w w3) (hg : w.heap.size ≤ g) (hx : w3.heap[g]? = some (.cells #[u0, u1, u2, u3] 125 (0, 0)))
    (d1 : ¬ F1 g) (d2 : ¬ F2 g) (d3 : ¬ F3 g) : BxP w N S g ((((w3.setCell ⟨g, 0, none⟩ (.int .i64 N)).setCell ⟨g, 1, none⟩ (.slice A1 n1 c1)).setCell ⟨g, 2, none⟩ (.slice A2 n2 c2)).setCell ⟨g, 3, none⟩ (.slice A3 n3 c3)) := by
  have hc := ch_set4 w3 g (.int .i64 N) (.slice A1 n1 c1) (.slice A2 n2 c2) (.slice A3 n3 c3)
  obtain ⟨us, hx3, _⟩ := ownp_x (h3.ch hc (fun k hk e => by have e2 : k = g := e; subst e2; exact d3 hk))
  refine ⟨A1, n1, c1, A2, n2, c2, A3, n3, c3, us, by simpa using blk_set (blk_set (blk_set (blk_set hx 0 (.int .i64 N)) 1 (.slice A1 n1 c1)) 2 (.slice A2 n2 c2)) 3 (.slice A3 n3 c3), (h1.ch hc (fun k hk e => by have e2 : k = g := e; subst e2; exact d1 hk)).rdl, (h2.ch hc (fun k hk e => by have e2 : k = g := e; subst e2; exact d2 hk)).rdl, hx3, below_ch hb hc (fun k hk => by have e : k = g := hk; omega) hb.size⟩
end Go.Proofs.Ytcpkhhammafchaa
