/- FindContexts (reference): the first sets, and the proof that sets make. -/
import Derived.Test.YtcpkhhammafchaaFrG
import Derived.Test.YtcpkhhammafchaaPo
namespace Go.Proofs.Ytcpkhhammafchaa
open Go.RowKit
set_option linter.unusedVariables false
set_option linter.unusedSimpArgs false
theorem frp_heads : ∀ {sts : List Int} {cs : List (List Int)}, sts.length = cs.length → (stated sts cs).map (fun x => x.getD 0 0) = sts ∧ (stated sts cs).map (fun x => x.drop 1) = cs
  | [], [], _ => ⟨rfl, rfl⟩
  | a :: r, c :: d, h => by
    have ih := frp_heads (sts := r) (cs := d) (by simpa using h)
    unfold stated at ih ⊢
    simp only [List.zipWith_cons_cons, List.map_cons]
    rw [ih.1, ih.2]
    exact ⟨rfl, rfl⟩
  | [], _ :: _, h => by simp at h
  | _ :: _, [], h => by simp at h
def nsF (N : Nat) (S : St3) : List Int := [(N : Int), (S.l.length : Int), (S.r.length : Int)] ++ S.c.map (fun x => x.getD 0 0)
def wsF (S : St3) : List (List Int) := S.l ++ S.r ++ S.c.map (fun x => x.drop 1)
theorem prF_yes {N : Nat} {S : St3} (h : okF N S = true) : prF N S = (8, nsF N S, wsF S, 0) := by
  unfold prF nsF wsF; unfold okF at h; rw [h]; rfl
theorem outE {w : World} {F : Nat → Prop} {g N : Nat} {S : St3} (h : RefE w F g N S) (hs : S.size ≤ 100000) :
    Calls Try.prog 78 #[.pointer (some ⟨g, 0, none⟩)] w (OutP w (nsF N S) (wsF S) (okF N S)) := by
  obtain ⟨A1, n1, c1, us1, A2, n2, c2, us2, A3, n3, c3, us3, A4, c4, sts, cs, hl, hx⟩ := h
  have l1 := hx.x1.ownp.rdl.len
  have l2 := hx.x2.ownp.rdl.len
  have l3 := hx.x3.ownp.rdl.len
  have hh := frp_heads hl
  rw [hx.st] at hh
  have l4 : S.c.length = n3 := by
    have h1 := congrArg List.length hh.2
    simp only [List.length_map] at h1
    omega
  unfold St3.size at hs
  have h := l29Out_any w g N A1 n1 c1 A2 n2 c2 A3 n3 c3 A4 n3 c4 hx.bs S.l S.r cs sts hx.x1.ownp.rdl (by omega) hx.x2.ownp.rdl (by omega) hx.x3.ownp.rdl (by omega) (own_rd hx.x4) (by omega)
  have e1 : [(N : Int), (n1 : Int), (n2 : Int)] ++ sts = nsF N S := by unfold nsF; rw [hh.1, l1, l2]
  have e2 : S.l ++ S.r ++ cs = wsF S := by unfold wsF; rw [hh.2]
  rw [e1, e2] at h
  exact h
theorem frp_inner {W : World} {A : Option Addr} {n c : Nat} {xs : List Int} (ho : W.ownsRow 0 2 1 (.slice A n c) n (ints xs)) (hn : n ≤ 1000000000) : InnerP W (FU [.slice A n c]) [.slice A n c] [xs] := by
  refine ⟨rfl, ?_, ?_⟩
  · intro i u ys hu hy
    match i, hu, hy with
    | 0, hu, hy =>
      obtain rfl : Value.slice A n c = u := by simpa using hu
      obtain rfl : xs = ys := by simpa using hy
      exact ⟨A, n, c, rfl, hn, ho, fun k hk => ⟨_, by simp, hk⟩⟩
    | i + 1, hu, hy => simp at hu
  · intro i j u v hu hv k _ _
    match i, j, hu, hv with
    | 0, 0, _, _ => rfl
    | i + 1, _, hu, _ => simp at hu
    | 0, j + 1, _, hv => simp at hv
theorem fo_at {b n c k : Nat} (h : Fo (.slice (some ⟨b, 0, none⟩) n c) k) : k = b := by
  have : b = k := by simpa [Fo, Value.ownBlock] using h
  exact this.symm
theorem fx_one {q b n c k : Nat} (h : FX (some ⟨q, 0, none⟩) 1 1 [.slice (some ⟨b, 0, none⟩) n c] k) : k = q ∨ k = b := by
  rcases h with h | ⟨u, hu, h⟩
  · exact .inl (fo_at h)
  · obtain rfl := List.mem_singleton.1 hu
    exact .inr (fo_at h)
theorem fo_nil {k : Nat} (h : Fo (.slice none 0 0) k) : False := by simp [Fo, Value.ownBlock] at h
/-- The sets at the start. -/
theorem refe_init {W : World} {g b1 q1 b2 q2 N : Nat} (hbox : W.heap[g]? = some (.cells #[.int .i64 N, .slice (some ⟨q1, 0, none⟩) 1 1, .slice (some ⟨q2, 0, none⟩) 1 1, .slice none 0 0, .slice none 0 0] 117 (0, 0)))
    (o1 : W.ownsRow 0 2 1 (.slice (some ⟨b1, 0, none⟩) N N) N (ints (List.replicate N 0))) (p1 : W.ownsRow 0 25 1 (.slice (some ⟨q1, 0, none⟩) 1 1) 1 [.slice (some ⟨b1, 0, none⟩) N N])
    (o2 : W.ownsRow 0 2 1 (.slice (some ⟨b2, 0, none⟩) N N) N (ints (List.replicate N 0))) (p2 : W.ownsRow 0 25 1 (.slice (some ⟨q2, 0, none⟩) 1 1) 1 [.slice (some ⟨b2, 0, none⟩) N N]) (hN : 1 ≤ N ∧ N ≤ 4) (hb : b1 ≠ b2) (hq : q1 ≠ q2) :
    RefE W (fun k => k < W.heap.size ∧ (k = g ∨ k = b1 ∨ k = q1 ∨ k = b2 ∨ k = q2)) g N ⟨[List.replicate N 0], [List.replicate N 0], []⟩ := by
  have x1 : OwnX W (some ⟨q1, 0, none⟩) 1 1 [.slice (some ⟨b1, 0, none⟩) N N] [List.replicate N 0] := ⟨p1, frp_inner o1 (by omega)⟩
  have x2 : OwnX W (some ⟨q2, 0, none⟩) 1 1 [.slice (some ⟨b2, 0, none⟩) N N] [List.replicate N 0] := ⟨p2, frp_inner o2 (by omega)⟩
  have h1 : Fo (.slice (some ⟨q1, 0, none⟩) 1 1) q1 := by simp [Fo, Value.ownBlock]
  have h2 : Fo (.slice (some ⟨q2, 0, none⟩) 1 1) q2 := by simp [Fo, Value.ownBlock]
  have g1 : Fo (.slice (some ⟨b1, 0, none⟩) N N) b1 := by simp [Fo, Value.ownBlock]
  have g2 : Fo (.slice (some ⟨b2, 0, none⟩) N N) b2 := by simp [Fo, Value.ownBlock]
  have t1 : q1 ≠ b2 := fun e => own_types2 p1 o2 (by decide) q1 h1 (by rw [e]; exact g2)
  have t2 : q2 ≠ b1 := fun e => own_types2 p2 o1 (by decide) q2 h2 (by rw [e]; exact g1)
  refine ⟨_, _, _, _, _, _, _, _, none, 0, 0, [], none, 0, [], [], rfl, ⟨hbox, x1, x2, OwnX.nil _, own_nil _ _ _, rfl, ?_, fun q _ a => fx_nil q a, fun q _ a => fx_nil q a, fun q _ a => fo_nil a, fun q _ a => fo_nil a, fun q _ a => fo_nil a, ⟨blk_lt hbox, .inl rfl⟩, ?_, ?_, fun q a => (fx_nil q a).elim, fun q a => (fo_nil a).elim, fun q a => a.1⟩⟩
  · intro q a b
    rcases fx_one a with rfl | rfl <;> rcases fx_one b with h | h
    · exact hq h
    · exact t1 h
    · exact t2 h.symm
    · exact hb h
  · intro q a
    refine ⟨x1.lt a, ?_⟩
    rcases fx_one a with h | h
    · exact .inr (.inr (.inl h))
    · exact .inr (.inl h)
  · intro q a
    refine ⟨x2.lt a, ?_⟩
    rcases fx_one a with h | h
    · exact .inr (.inr (.inr (.inr h)))
    · exact .inr (.inr (.inr (.inl h)))
end Go.Proofs.Ytcpkhhammafchaa
