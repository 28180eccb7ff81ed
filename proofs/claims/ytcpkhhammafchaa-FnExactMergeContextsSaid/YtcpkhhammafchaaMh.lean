/- A row of another's put into rows of rows (for MergeContexts' reference). -/
import Derived.Test.YtcpkhhammafchaaWs
import Derived.Test.YtcpkhhammafchaaAd
namespace Go.Proofs.Ytcpkhhammafchaa
open Go.RowKit
set_option linter.unusedVariables false
set_option linter.unusedSimpArgs false
theorem insx_own {w w3 : World} {A A2 A4 : Option Addr} {n c n2 c2 c4 p : Nat} {us : List Value} {xss : List (List Int)} {ys : List Int} {G : Nat → Prop} (h : OwnX w A n c us xss) (ho : w.ownsRow 0 2 1 (.slice A2 n2 c2) n2 (ints ys)) (hn : n2 ≤ 1000000000) (hd : ∀ k, FX A n c us k → Fo (.slice A2 n2 c2) k → False) (hp : p ≤ n)
    (ho4 : w3.ownsRow 0 25 1 (.slice A4 (n + 1) c4) (n + 1) (insAt us p (.slice A2 n2 c2))) (hc4 : Ch G w w3) (hG : ∀ q, FU us q ∨ Fo (.slice A2 n2 c2) q → ¬ G q) (hf4 : ∀ q, Fo (.slice A4 (n + 1) c4) q → Fo (.slice A n c) q ∨ w.heap.size ≤ q) :
    OwnX w3 A4 (n + 1) c4 (insAt us p (.slice A2 n2 c2)) (insAt xss p ys) ∧ ∀ q, FX A4 (n + 1) c4 (insAt us p (.slice A2 n2 c2)) q → FX A n c us q ∨ Fo (.slice A2 n2 c2) q ∨ w.heap.size ≤ q := by
  have hul : us.length = n := by simpa using h.1.1
  have hxl : xss.length = n := by rw [← hul]; exact h.2.1.symm
  have hs := h.2.snoc (G := FU (us ++ [.slice A2 n2 c2])) ho hn (fun q a b => hd q (.inr a) b) (fun q hq => by obtain ⟨u, hu, hf⟩ := hq; exact ⟨u, by simp [hu], hf⟩) (fun q hq => ⟨_, by simp, hq⟩)
  have e1 := zip_fst_snd (us := us ++ [.slice A2 n2 c2]) (xss := xss ++ [ys]) (by simp [hul, hxl])
  have hs2 : InnerP w (FU (us ++ [.slice A2 n2 c2])) (((us ++ [Value.slice A2 n2 c2]).zip (xss ++ [ys])).map Prod.fst) (((us ++ [Value.slice A2 n2 c2]).zip (xss ++ [ys])).map Prod.snd) := by rw [e1.1, e1.2]; exact hs
  have hz : ((us ++ [Value.slice A2 n2 c2]).zip (xss ++ [ys])).Perm (insAt (us.zip xss) p (.slice A2 n2 c2, ys)) := by
    rw [List.zip_append (by omega)]
    exact ins_perm
  have h3 := hs2.perm hz
  rw [← ins_zip (by omega) (by omega)] at h3
  have e2 := zip_fst_snd (us := insAt us p (.slice A2 n2 c2)) (xss := insAt xss p ys) (by rw [ins_len (by omega), ins_len (by omega)]; omega)
  rw [e2.1, e2.2] at h3
  have hfu : ∀ q, FU (insAt us p (.slice A2 n2 c2)) q → FU us q ∨ Fo (.slice A2 n2 c2) q := fun q hq => by
    have hq2 := (fu_perm (ins_perm (us := us) (p := p) (u := Value.slice A2 n2 c2)) q).2 hq
    obtain ⟨u, hu, hf⟩ := hq2
    rcases List.mem_append.1 hu with hu | hu
    · exact .inl ⟨u, hu, hf⟩
    · simp at hu; subst hu; exact .inr hf
  refine ⟨⟨ho4, (inner_fu h3).ch hc4 (fun q a b => hG q (hfu q a) b)⟩, fun q hq => ?_⟩
  rcases hq with hq | hq
  · rcases hf4 q hq with h1 | h1
    · exact .inl (.inl h1)
    · exact .inr (.inr h1)
  · rcases hfu q hq with h1 | h1
    · exact .inl (.inr h1)
    · exact .inr (.inl h1)
/-- What putting another's row leaves, by footprint. -/
theorem putq_own2 {w w3 : World} {A A2 : Option Addr} {n c n2 c2 : Nat} {us : List Value} {xss : List (List Int)} {ys : List Int} {e : Ending} (h : OwnX w A n c us xss) (hri : Rises xss) (ho : w.ownsRow 0 2 1 (.slice A2 n2 c2) n2 (ints ys)) (hn : n2 ≤ 1000000000) (hd : ∀ k, FX A n c us k → Fo (.slice A2 n2 c2) k → False) (hq : PutQ w A n c us xss (.slice A2 n2 c2) ys e w3) :
    ∃ A' n' c' us', e = .returned (.slice A' n' c') ∧ OwnX w3 A' n' c' us' (putL xss ys) ∧ (∀ q, FX A' n' c' us' q → FX A n c us q ∨ Fo (.slice A2 n2 c2) q ∨ w.heap.size ≤ q) ∧ Ch (Fo (.slice A n c)) w w3 := by
  rcases hq with ⟨hin, rfl, m, rfl⟩ | ⟨A4, c4, p, rfl, hp, hpl, ho4, hc4, hf4⟩
  · refine ⟨A, n, c, us, rfl, ?_, fun q hq => .inl hq, ch_drewN (Ch.refl _ _)⟩
    rw [putL_in hri hin]
    exact h.ch (ch_drewN (F := fun _ => False) (Ch.refl _ _)) (fun _ _ h => h)
  · have hG : ∀ q, FU us q ∨ Fo (.slice A2 n2 c2) q → ¬ Fo (.slice A n c) q := fun q hq hb => by
      rcases hq with hq | hq
      · exact fu_types h.1 h.2 q hq hb
      · exact hd q (.inl hb) hq
    obtain ⟨h1, h2⟩ := insx_own h ho hn hd hp ho4 hc4 hG hf4
    exact ⟨A4, n + 1, c4, _, rfl, by rw [hpl]; exact h1, h2, hc4⟩
end Go.Proofs.Ytcpkhhammafchaa
