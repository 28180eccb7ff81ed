/- The windows of a side (reference). -/
import Derived.Test.YtcpkhhammafchaaPt
import Derived.Test.YtcpkhhammafchaaMk
import Derived.Test.YtcpkhhammafchaaGE
namespace Go.Proofs.Ytcpkhhammafchaa
open Go.RowKit
set_option linter.unusedVariables false
set_option linter.unusedSimpArgs false
/-- The blank window and k windows from a cell on. -/
def wl (xs : List Int) (f len k : Nat) : List (List Int) := List.replicate len 0 :: (List.range k).map (fun i => cellsF xs (f + i) len)
theorem wl_snoc (xs : List Int) (f len k : Nat) : wl xs f len (k + 1) = wl xs f len k ++ [cellsF xs (f + k) len] := by simp [wl, List.range_succ]
theorem wl_len (xs : List Int) (f len k : Nat) : ∀ ys ∈ wl xs f len k, ys.length = len := by
  intro ys hy
  rcases List.mem_cons.1 hy with rfl | hy
  · simp
  · obtain ⟨i, _, rfl⟩ := List.mem_map.1 hy
    exact cellsF_len _ _ _
theorem wl_size (xs : List Int) (f len k : Nat) : (wl xs f len k).length = k + 1 := by simp [wl]
def winsOf (xs : List Int) (f len : Nat) : List (List Int) := sortU (wl xs f len (xs.length - f))
theorem putL_size : ∀ (l : List (List Int)) (x : List Int), (putL l x).length ≤ l.length + 1
  | [], x => by simp [putL]
  | y :: r, x => by
    have ih := putL_size r x
    simp only [putL]
    split
    · simp
    · split
      · simp
      · simp only [List.length_cons]; omega
theorem sortU_size (l : List (List Int)) : (sortU l).length ≤ l.length := by
  have h : ∀ (l acc : List (List Int)), (l.foldl putL acc).length ≤ acc.length + l.length := by
    intro l
    induction l with
    | nil => intro acc; simp
    | cons x r ih =>
      intro acc
      have h1 := ih (putL acc x)
      have h2 := putL_size acc x
      simp only [List.foldl_cons, List.length_cons]
      omega
  have := h l []
  simpa [sortU] using this
/-- One row of rows. -/
theorem ownx_one {w w' : World} {B n c g : Nat} {A : Option Addr} {xs : List Int} (ho : w.ownsRow B 2 1 (.slice A n c) n (ints xs)) (hn : n ≤ 1000000000) (hw : w' = w.alloc (.cells #[.slice A n c] 25)) (hg : g = w.heap.size) : OwnX w' (some ⟨g, 0, none⟩) 1 1 [.slice A n c] [xs] := by
  subst hw hg
  have h1 := own_lit w #[.slice A n c] 1 25 rfl (by omega)
  refine ⟨ownN_base h1 (Nat.zero_le _), ?_⟩
  have h2 := (InnerP.nil w (FU [])).snoc (G := FU [.slice A n c]) ho hn (fun k hk => by obtain ⟨u, hu, _⟩ := hk; simp at hu) (fun k hk => by obtain ⟨u, hu, _⟩ := hk; simp at hu) (fun k hk => ⟨_, by simp, hk⟩)
  exact h2.ch (ch_below (F := fun _ => False) (below_new w _)) (fun _ _ h => h)
/-- What putting leaves, by footprint. -/
theorem putq_own {w w2 w3 : World} {A A2 : Option Addr} {n c n2 c2 : Nat} {us : List Value} {xss : List (List Int)} {ys : List Int} {e : Ending} (h : OwnX w A n c us xss) (hri : Rises xss) (hb : Below w.heap.size w w2) (ho : w2.ownsRow w.heap.size 2 1 (.slice A2 n2 c2) n2 (ints ys)) (hn : n2 ≤ 1000000000) (hq : PutQ w2 A n c us xss (.slice A2 n2 c2) ys e w3) :
    ∃ A' n' c' us', e = .returned (.slice A' n' c') ∧ OwnX w3 A' n' c' us' (putL xss ys) ∧ (∀ q, FX A' n' c' us' q → FX A n c us q ∨ w.heap.size ≤ q) ∧ Ch (Fo (.slice A n c)) w2 w3 := by
  rcases hq with ⟨hin, rfl, m, rfl⟩ | ⟨A4, c4, p, rfl, hp, hpl, ho4, hc4, hf4⟩
  · have hc : Ch (Fo (.slice A n c)) w2 (w2.drewN m) := ch_drewN (Ch.refl _ _)
    refine ⟨A, n, c, us, rfl, ?_, fun q hq => .inl hq, hc⟩
    rw [putL_in hri hin]
    exact (h.below hb).ch (ch_drewN (F := fun _ => False) (Ch.refl _ _)) (fun _ _ h => h)
  · have hul : us.length = n := by simpa using h.1.1
    have hxl : xss.length = n := by rw [← hul]; exact h.2.1.symm
    refine ⟨A4, n + 1, c4, insAt us p (.slice A2 n2 c2), rfl, ⟨ho4, ?_⟩, fun q hq => ?_, hc4⟩
    · have h2 := (h.below hb).2
      have hs := h2.snoc (G := FU (us ++ [.slice A2 n2 c2])) ho hn (fun q a b => by have := h.lt (.inr a); have := (ho.lt q b).1; omega) (fun q hq => by obtain ⟨u, hu, hf⟩ := hq; exact ⟨u, by simp [hu], hf⟩) (fun q hq => ⟨_, by simp, hq⟩)
      have e1 := zip_fst_snd (us := us ++ [.slice A2 n2 c2]) (xss := xss ++ [ys]) (by simp [hul, hxl])
      have hs2 : InnerP w2 (FU (us ++ [.slice A2 n2 c2])) (((us ++ [Value.slice A2 n2 c2]).zip (xss ++ [ys])).map Prod.fst) (((us ++ [Value.slice A2 n2 c2]).zip (xss ++ [ys])).map Prod.snd) := by rw [e1.1, e1.2]; exact hs
      have hz : ((us ++ [Value.slice A2 n2 c2]).zip (xss ++ [ys])).Perm (insAt (us.zip xss) p (.slice A2 n2 c2, ys)) := by
        rw [List.zip_append (by omega)]
        exact ins_perm
      have h3 := hs2.perm hz
      rw [← ins_zip (by omega) (by omega)] at h3
      have e2 := zip_fst_snd (us := insAt us p (.slice A2 n2 c2)) (xss := insAt xss p ys) (by rw [ins_len (by omega), ins_len (by omega)]; omega)
      rw [e2.1, e2.2, ← hpl] at h3
      exact (inner_fu h3).ch hc4 (fun q a b => fu_types (ownN_below h.1 hb (Nat.le_refl _)) (inner_fu h3) q a b)
    · rcases hq with hq | hq
      · rcases hf4 q hq with h1 | h1
        · exact .inl (.inl h1)
        · exact .inr (Nat.le_trans hb.size h1)
      · have hq2 := (fu_perm (ins_perm (us := us) (p := p) (u := Value.slice A2 n2 c2)) q).2 hq
        obtain ⟨u, hu, hf⟩ := hq2
        rcases List.mem_append.1 hu with hu | hu
        · exact .inl (.inr ⟨u, hu, hf⟩)
        · simp at hu; subst hu; exact .inr (ho.lt q hf).1
end Go.Proofs.Ytcpkhhammafchaa
