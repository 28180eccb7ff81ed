/- Proofs by contexts: the reference's parts while they are being laid. -/
import Derived.Test.YtjgajjcgapifoaaPrfT
import Derived.Test.YtjgajjcgapifoaaAppO
namespace Go.Proofs.Ytjgajjcgapifoaa
open Go.RowKit
set_option linter.unusedVariables false
set_option linter.unusedSimpArgs false
def lsK (ws : List (List Int)) (a b k : Nat) : List (List Int) := ws.take (min k a)
def rsK (ws : List (List Int)) (a b k : Nat) : List (List Int) := (ws.take (min k (a + b))).drop a
def csK (ws : List (List Int)) (a b k : Nat) : List (List Int) := (ws.take k).drop (a + b)
theorem take_snoc {ws : List (List Int)} {k : Nat} {xs : List Int} (h : ws[k]? = some xs) : ws.take (k + 1) = ws.take k ++ [xs] := by rw [List.take_add_one, h]; rfl
theorem drop_snoc {l : List (List Int)} {a : Nat} {x : List Int} (h : a ≤ l.length) : (l ++ [x]).drop a = l.drop a ++ [x] := by rw [List.drop_append_of_le_length h]
section
variable {ws : List (List Int)} {a b k : Nat} {xs : List Int}
theorem lsK_in (hx : ws[k]? = some xs) (hk : k < a) : lsK ws a b (k + 1) = lsK ws a b k ++ [xs] := by
  unfold lsK
  rw [show min (k + 1) a = k + 1 by omega, show min k a = k by omega, take_snoc hx]
theorem lsK_out (hk : a ≤ k) : lsK ws a b (k + 1) = lsK ws a b k := by
  unfold lsK
  rw [show min (k + 1) a = a by omega, show min k a = a by omega]
theorem rsK_lo (hk : k < a) : rsK ws a b (k + 1) = rsK ws a b k := by
  unfold rsK
  rw [List.drop_of_length_le (by simp; omega), List.drop_of_length_le (by simp; omega)]
theorem rsK_in (hx : ws[k]? = some xs) (h1 : a ≤ k) (h2 : k < a + b) : rsK ws a b (k + 1) = rsK ws a b k ++ [xs] := by
  have hl := (List.getElem?_eq_some_iff.1 hx).1
  unfold rsK
  rw [show min (k + 1) (a + b) = k + 1 by omega, show min k (a + b) = k by omega, take_snoc hx, drop_snoc (by simp; omega)]
theorem rsK_out (h2 : a + b ≤ k) : rsK ws a b (k + 1) = rsK ws a b k := by
  unfold rsK
  rw [show min (k + 1) (a + b) = a + b by omega, show min k (a + b) = a + b by omega]
theorem csK_lo (hk : k < a + b) : csK ws a b (k + 1) = csK ws a b k := by
  unfold csK
  rw [List.drop_of_length_le (by simp; omega), List.drop_of_length_le (by simp; omega)]
theorem csK_in (hx : ws[k]? = some xs) (h1 : a + b ≤ k) : csK ws a b (k + 1) = csK ws a b k ++ [xs] := by
  have hl := (List.getElem?_eq_some_iff.1 hx).1
  unfold csK
  rw [take_snoc hx, drop_snoc (by simp; omega)]
end
theorem k_start (ws : List (List Int)) (a b : Nat) : lsK ws a b 0 = [] ∧ rsK ws a b 0 = [] ∧ csK ws a b 0 = [] := by simp [lsK, rsK, csK]
theorem k_end {ws : List (List Int)} {a b : Nat} (h : a + b ≤ ws.length) : lsK ws a b ws.length = ws.take a ∧ rsK ws a b ws.length = (ws.drop a).take b ∧ csK ws a b ws.length = ws.drop (a + b) := by
  refine ⟨by unfold lsK; rw [show min ws.length a = a by omega], ?_, by simp [csK]⟩
  unfold rsK
  rw [show min ws.length (a + b) = a + b by omega, List.drop_take]
  congr 1; omega
theorem fx_ty {w : World} {A : Option Addr} {n c : Nat} {us : List Value} {xss : List (List Int)} (h : OwnX w A n c us xss) {k : Nat} (hk : FX A n c us k) : ∃ cs T, w.heap[k]? = some (.cells cs T (0, 0)) ∧ (T = 25 ∨ T = 2) := by
  rcases hk with hk | hk
  · obtain ⟨cs, hc⟩ := own_fo h.1 hk; exact ⟨cs, _, hc, .inl rfl⟩
  · obtain ⟨cs, hc⟩ := inner_fo h.2 hk; exact ⟨cs, _, hc, .inr rfl⟩
theorem fx_set {w : World} {g : Nat} {m : Int} {A1 : Option Addr} {n1 c1 : Nat} {A2 : Option Addr} {n2 c2 : Nat} {A3 : Option Addr} {n3 c3 : Nat} {A4 : Option Addr} {n4 c4 : Nat} (hb : BS w g m A1 n1 c1 A2 n2 c2 A3 n3 c3 A4 n4 c4)
    {A : Option Addr} {n c : Nat} {us : List Value} {xss : List (List Int)} (h : OwnX w A n c us xss) : ¬ FX A n c us g := by
  intro hk
  obtain ⟨cs, T, hc, hT⟩ := fx_ty h hk
  unfold BS at hb
  rw [hb] at hc
  injection hc with hc
  injection hc with _ h2
  rcases hT with hT | hT <;> rw [hT] at h2 <;> exact absurd h2 (by decide)
/-- The parts while they are being laid: k words are through. -/
structure St (w wr : World) (g : Nat) (m : Int) (A4 : Option Addr) (n4 c4 : Nat) (sts : List Int) (ws : List (List Int)) (a b k : Nat) (A1 : Option Addr) (n1 c1 : Nat) (u1 : List Value) (A2 : Option Addr) (n2 c2 : Nat) (u2 : List Value) (A3 : Option Addr) (n3 c3 : Nat) (u3 : List Value) : Prop where
  bs : BS wr g m A1 n1 c1 A2 n2 c2 A3 n3 c3 A4 n4 c4
  o1 : OwnX wr A1 n1 c1 u1 (lsK ws a b k)
  o2 : OwnX wr A2 n2 c2 u2 (rsK ws a b k)
  o3 : OwnX wr A3 n3 c3 u3 (csK ws a b k)
  o4 : wr.ownsRow w.heap.size 2 1 (.slice A4 n4 c4) n4 (ints sts)
  lo : ∀ q, FX A1 n1 c1 u1 q ∨ FX A2 n2 c2 u2 q ∨ FX A3 n3 c3 u3 q → w.heap.size ≤ q
  d12 : ∀ q, FX A1 n1 c1 u1 q → FX A2 n2 c2 u2 q → False
  d13 : ∀ q, FX A1 n1 c1 u1 q → FX A3 n3 c3 u3 q → False
  d23 : ∀ q, FX A2 n2 c2 u2 q → FX A3 n3 c3 u3 q → False
  d14 : ∀ q, FX A1 n1 c1 u1 q → Fo (.slice A4 n4 c4) q → False
  d24 : ∀ q, FX A2 n2 c2 u2 q → Fo (.slice A4 n4 c4) q → False
  d34 : ∀ q, FX A3 n3 c3 u3 q → Fo (.slice A4 n4 c4) q → False
  hb : Below w.heap.size w wr
  glo : w.heap.size ≤ g
theorem o4_set {w : World} {g : Nat} {m : Int} {A1 : Option Addr} {n1 c1 : Nat} {A2 : Option Addr} {n2 c2 : Nat} {A3 : Option Addr} {n3 c3 : Nat} {A4 : Option Addr} {n4 c4 : Nat} (hb : BS w g m A1 n1 c1 A2 n2 c2 A3 n3 c3 A4 n4 c4)
    {base n c : Nat} {A : Option Addr} {vs : List Value} (h : w.ownsRow base 2 1 (.slice A n c) n vs) : ¬ Fo (.slice A n c) g := by
  intro hk
  obtain ⟨cs, hc⟩ := own_fo h hk
  unfold BS at hb
  rw [hb] at hc
  injection hc with hc
  injection hc with _ h2
  exact absurd h2 (by decide)
section
variable {w wr w2 w4 : World} {g : Nat} {m : Int} {A4 : Option Addr} {n4 c4 : Nat} {sts : List Int} {ws : List (List Int)} {a b k : Nat} {A1 : Option Addr} {n1 c1 : Nat} {u1 : List Value} {A2 : Option Addr} {n2 c2 : Nat} {u2 : List Value} {A3 : Option Addr} {n3 c3 : Nat} {u3 : List Value} {xs : List Int} {B : Option Addr} {nb cb : Nat} {A' : Option Addr} {c' : Nat}
theorem St.step1 (h : St w wr g m A4 n4 c4 sts ws a b k A1 n1 c1 u1 A2 n2 c2 u2 A3 n3 c3 u3) (hx : ws[k]? = some xs) (hk : k < a)
    (hb2 : Below wr.heap.size wr w2) (ho : w2.ownsRow wr.heap.size 2 1 (.slice B nb cb) nb (ints xs)) (hn : nb ≤ 1000000000)
    (ho4 : w4.ownsRow 0 25 1 (.slice A' (n1 + 1) c') (n1 + 1) (u1 ++ [.slice B nb cb])) (hc4 : Ch (Fo (.slice A1 n1 c1)) w2 w4) (hf : ∀ q, Fo (.slice A' (n1 + 1) c') q → Fo (.slice A1 n1 c1) q ∨ w2.heap.size ≤ q) :
    St w (w4.setCell ⟨g, 1, none⟩ (.slice A' (n1 + 1) c')) g m A4 n4 c4 sts ws a b (k + 1) A' (n1 + 1) c' (u1 ++ [.slice B nb cb]) A2 n2 c2 u2 A3 n3 c3 u3 := by
  obtain ⟨hx1, hx2⟩ := h.o1.step hb2 ho hn ho4 hc4 hf
  have hs2 := hb2.size
  have hc : Ch (fun q => Fo (.slice A1 n1 c1) q) wr w4 := (ch_below hb2).trans hc4
  have hg1 := fx_set h.bs h.o1
  have hbs4 : BS w4 g m A1 n1 c1 A2 n2 c2 A3 n3 c3 A4 n4 c4 := blk_ch h.bs hc (fun hq => hg1 (.inl hq))
  have hlt : g < wr.heap.size := blk_lt h.bs
  have hcs := ch_set w4 g 1 (.slice A' (n1 + 1) c')
  have hcc : Ch (fun q => Fo (.slice A1 n1 c1) q ∨ q = g) wr (w4.setCell ⟨g, 1, none⟩ (.slice A' (n1 + 1) c')) := (hc.mono (fun q hq => .inl hq)).trans (hcs.mono (fun q hq => .inr hq))
  have hw : w.heap.size ≤ wr.heap.size := h.hb.size
  refine ⟨?_, ?_, ?_, ?_, ?_, ?_, ?_, ?_, h.d23, ?_, h.d24, h.d34, ?_, h.glo⟩
  · have := blk_set hbs4 1 (.slice A' (n1 + 1) c'); simpa [BS] using this
  · rw [lsK_in hx hk]
    exact hx1.ch hcs (fun q hq e => by subst e; rcases hx2 q hq with h1 | h1; exact hg1 h1; omega)
  · rw [rsK_lo hk]
    exact h.o2.ch hcc (fun q hq e => by rcases e with e | e; exact h.d12 q (.inl e) hq; subst e; exact fx_set h.bs h.o2 hq)
  · rw [csK_lo (by omega)]
    exact h.o3.ch hcc (fun q hq e => by rcases e with e | e; exact h.d13 q (.inl e) hq; subst e; exact fx_set h.bs h.o3 hq)
  · exact own_ch h.o4 hcc (fun q hq e => by rcases e with e | e; exact h.d14 q (.inl e) hq; subst e; exact o4_set h.bs h.o4 hq)
  · intro q hq
    rcases hq with hq | hq
    · rcases hx2 q hq with h1 | h1
      · exact h.lo q (.inl h1)
      · omega
    · exact h.lo q (.inr hq)
  · intro q h1 h2
    rcases hx2 q h1 with h3 | h3
    · exact h.d12 q h3 h2
    · have := h.o2.lt h2; omega
  · intro q h1 h2
    rcases hx2 q h1 with h3 | h3
    · exact h.d13 q h3 h2
    · have := h.o3.lt h2; omega
  · intro q h1 h2
    rcases hx2 q h1 with h3 | h3
    · exact h.d14 q h3 h2
    · have := (h.o4.lt q h2).2; omega
  · exact below_ch h.hb hcc (fun q hq => by rcases hq with hq | hq; exact h.lo q (.inl (.inl hq)); subst hq; exact h.glo) hw
theorem St.step2 (h : St w wr g m A4 n4 c4 sts ws a b k A1 n1 c1 u1 A2 n2 c2 u2 A3 n3 c3 u3) (hx : ws[k]? = some xs) (hk : a ≤ k) (hk2 : k < a + b)
    (hb2 : Below wr.heap.size wr w2) (ho : w2.ownsRow wr.heap.size 2 1 (.slice B nb cb) nb (ints xs)) (hn : nb ≤ 1000000000)
    (ho4 : w4.ownsRow 0 25 1 (.slice A' (n2 + 1) c') (n2 + 1) (u2 ++ [.slice B nb cb])) (hc4 : Ch (Fo (.slice A2 n2 c2)) w2 w4) (hf : ∀ q, Fo (.slice A' (n2 + 1) c') q → Fo (.slice A2 n2 c2) q ∨ w2.heap.size ≤ q) :
    St w (w4.setCell ⟨g, 2, none⟩ (.slice A' (n2 + 1) c')) g m A4 n4 c4 sts ws a b (k + 1) A1 n1 c1 u1 A' (n2 + 1) c' (u2 ++ [.slice B nb cb]) A3 n3 c3 u3 := by
  obtain ⟨hx1, hx2⟩ := h.o2.step hb2 ho hn ho4 hc4 hf
  have hs2 := hb2.size
  have hc : Ch (fun q => Fo (.slice A2 n2 c2) q) wr w4 := (ch_below hb2).trans hc4
  have hg1 := fx_set h.bs h.o2
  have hbs4 : BS w4 g m A1 n1 c1 A2 n2 c2 A3 n3 c3 A4 n4 c4 := blk_ch h.bs hc (fun hq => hg1 (.inl hq))
  have hlt : g < wr.heap.size := blk_lt h.bs
  have hcs := ch_set w4 g 2 (.slice A' (n2 + 1) c')
  have hcc : Ch (fun q => Fo (.slice A2 n2 c2) q ∨ q = g) wr (w4.setCell ⟨g, 2, none⟩ (.slice A' (n2 + 1) c')) := (hc.mono (fun q hq => .inl hq)).trans (hcs.mono (fun q hq => .inr hq))
  have hw : w.heap.size ≤ wr.heap.size := h.hb.size
  refine ⟨?_, ?_, ?_, ?_, ?_, ?_, ?_, h.d13, ?_, h.d14, ?_, h.d34, ?_, h.glo⟩
  · have := blk_set hbs4 2 (.slice A' (n2 + 1) c'); simpa [BS] using this
  · rw [lsK_out hk]
    exact h.o1.ch hcc (fun q hq e => by rcases e with e | e; exact h.d12 q hq (.inl e); subst e; exact fx_set h.bs h.o1 hq)
  · rw [rsK_in hx hk hk2]
    exact hx1.ch hcs (fun q hq e => by subst e; rcases hx2 q hq with h1 | h1; exact hg1 h1; omega)
  · rw [csK_lo hk2]
    exact h.o3.ch hcc (fun q hq e => by rcases e with e | e; exact h.d23 q (.inl e) hq; subst e; exact fx_set h.bs h.o3 hq)
  · exact own_ch h.o4 hcc (fun q hq e => by rcases e with e | e; exact h.d24 q (.inl e) hq; subst e; exact o4_set h.bs h.o4 hq)
  · intro q hq
    rcases hq with hq | hq | hq
    · exact h.lo q (.inl hq)
    · rcases hx2 q hq with h1 | h1
      · exact h.lo q (.inr (.inl h1))
      · omega
    · exact h.lo q (.inr (.inr hq))
  · intro q h1 h2
    rcases hx2 q h2 with h3 | h3
    · exact h.d12 q h1 h3
    · have := h.o1.lt h1; omega
  · intro q h1 h2
    rcases hx2 q h1 with h3 | h3
    · exact h.d23 q h3 h2
    · have := h.o3.lt h2; omega
  · intro q h1 h2
    rcases hx2 q h1 with h3 | h3
    · exact h.d24 q h3 h2
    · have := (h.o4.lt q h2).2; omega
  · exact below_ch h.hb hcc (fun q hq => by rcases hq with hq | hq; exact h.lo q (.inr (.inl (.inl hq))); subst hq; exact h.glo) hw
theorem St.step3 (h : St w wr g m A4 n4 c4 sts ws a b k A1 n1 c1 u1 A2 n2 c2 u2 A3 n3 c3 u3) (hx : ws[k]? = some xs) (hk2 : a + b ≤ k)
    (hb2 : Below wr.heap.size wr w2) (ho : w2.ownsRow wr.heap.size 2 1 (.slice B nb cb) nb (ints xs)) (hn : nb ≤ 1000000000)
    (ho4 : w4.ownsRow 0 25 1 (.slice A' (n3 + 1) c') (n3 + 1) (u3 ++ [.slice B nb cb])) (hc4 : Ch (Fo (.slice A3 n3 c3)) w2 w4) (hf : ∀ q, Fo (.slice A' (n3 + 1) c') q → Fo (.slice A3 n3 c3) q ∨ w2.heap.size ≤ q) :
    St w (w4.setCell ⟨g, 3, none⟩ (.slice A' (n3 + 1) c')) g m A4 n4 c4 sts ws a b (k + 1) A1 n1 c1 u1 A2 n2 c2 u2 A' (n3 + 1) c' (u3 ++ [.slice B nb cb]) := by
  obtain ⟨hx1, hx2⟩ := h.o3.step hb2 ho hn ho4 hc4 hf
  have hs2 := hb2.size
  have hc : Ch (fun q => Fo (.slice A3 n3 c3) q) wr w4 := (ch_below hb2).trans hc4
  have hg1 := fx_set h.bs h.o3
  have hbs4 : BS w4 g m A1 n1 c1 A2 n2 c2 A3 n3 c3 A4 n4 c4 := blk_ch h.bs hc (fun hq => hg1 (.inl hq))
  have hlt : g < wr.heap.size := blk_lt h.bs
  have hcs := ch_set w4 g 3 (.slice A' (n3 + 1) c')
  have hcc : Ch (fun q => Fo (.slice A3 n3 c3) q ∨ q = g) wr (w4.setCell ⟨g, 3, none⟩ (.slice A' (n3 + 1) c')) := (hc.mono (fun q hq => .inl hq)).trans (hcs.mono (fun q hq => .inr hq))
  have hw : w.heap.size ≤ wr.heap.size := h.hb.size
  refine ⟨?_, ?_, ?_, ?_, ?_, ?_, h.d12, ?_, ?_, h.d14, h.d24, ?_, ?_, h.glo⟩
  · have := blk_set hbs4 3 (.slice A' (n3 + 1) c'); simpa [BS] using this
  · rw [lsK_out (by omega)]
    exact h.o1.ch hcc (fun q hq e => by rcases e with e | e; exact h.d13 q hq (.inl e); subst e; exact fx_set h.bs h.o1 hq)
  · rw [rsK_out hk2]
    exact h.o2.ch hcc (fun q hq e => by rcases e with e | e; exact h.d23 q hq (.inl e); subst e; exact fx_set h.bs h.o2 hq)
  · rw [csK_in hx hk2]
    exact hx1.ch hcs (fun q hq e => by subst e; rcases hx2 q hq with h1 | h1; exact hg1 h1; omega)
  · exact own_ch h.o4 hcc (fun q hq e => by rcases e with e | e; exact h.d34 q (.inl e) hq; subst e; exact o4_set h.bs h.o4 hq)
  · intro q hq
    rcases hq with hq | hq | hq
    · exact h.lo q (.inl hq)
    · exact h.lo q (.inr (.inl hq))
    · rcases hx2 q hq with h1 | h1
      · exact h.lo q (.inr (.inr h1))
      · omega
  · intro q h1 h2
    rcases hx2 q h2 with h3 | h3
    · exact h.d13 q h1 h3
    · have := h.o1.lt h1; omega
  · intro q h1 h2
    rcases hx2 q h2 with h3 | h3
    · exact h.d23 q h1 h3
    · have := h.o2.lt h1; omega
  · intro q h1 h2
    rcases hx2 q h1 with h3 | h3
    · exact h.d34 q h3 h2
    · have := (h.o4.lt q h2).2; omega
  · exact below_ch h.hb hcc (fun q hq => by rcases hq with hq | hq; exact h.lo q (.inr (.inr (.inl hq))); subst hq; exact h.glo) hw
end
end Go.Proofs.Ytjgajjcgapifoaa
