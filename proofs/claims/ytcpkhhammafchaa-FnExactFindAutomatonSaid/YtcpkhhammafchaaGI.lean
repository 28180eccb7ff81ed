/- Texts in one file: PrfU, PrfV, PrfW, PrfX, PrfP, LawK, CiS, CiM, Pb, CiJ. -/
import Derived.Test.YtcpkhhammafchaaGF
import Derived.Test.YtcpkhhammafchaaGG
import Derived.Test.YtcpkhhammafchaaGH
import Derived.Test.YtcpkhhammafchaaGC
import Derived.Test.YtcpkhhammafchaaGA
/- Proofs by contexts: the reference's parts while they are being laid. -/
namespace Go.Proofs.Ytcpkhhammafchaa
open Go.RowKit
set_option linter.unusedVariables false
set_option linter.unusedSimpArgs false
def lsK (ws : List (List Int)) (a b k : Nat) : List (List Int) := ws.take (min k a)
def rsK (ws : List (List Int)) (a b k : Nat) : List (List Int) := (ws.take (min k (a + b))).drop a
def csK (ws : List (List Int)) (a b k : Nat) : List (List Int) := (ws.take k).drop (a + b)
theorem take_snoc {ws : List (List Int)} {k : Nat} {xs : List Int} (h : ws[k]? = some xs) : ws.take (k + 1) = ws.take k ++ [xs] := by rw [List.take_add_one, h]; rfl
theorem drop_snoc {l : List (List Int)} {a : Nat} {x : List Int} (h : a ≤ l.length) : (l ++ [x]).drop a = l.drop a ++ [x] := by rw [List.drop_append_of_le_length h]
section
variable {ws : List (List Int)} {a b k : Nat} {xs : List Int}
theorem lsK_in (hx : ws[k]? = some xs) (hk : k < a) : lsK ws a b (k + 1) = lsK ws a b k ++ [xs] := by
  unfold lsK
  rw [show min (k + 1) a = k + 1 by omega, show min k a = k by omega, take_snoc hx]
theorem lsK_out (hk : a ≤ k) : lsK ws a b (k + 1) = lsK ws a b k := by
  unfold lsK
  rw [show min (k + 1) a = a by omega, show min k a = a by omega]
theorem rsK_lo (hk : k < a) : rsK ws a b (k + 1) = rsK ws a b k := by
  unfold rsK
  rw [List.drop_of_length_le (by simp; omega), List.drop_of_length_le (by simp; omega)]
theorem rsK_in (hx : ws[k]? = some xs) (h1 : a ≤ k) (h2 : k < a + b) : rsK ws a b (k + 1) = rsK ws a b k ++ [xs] := by
  have hl := (List.getElem?_eq_some_iff.1 hx).1
  unfold rsK
  rw [show min (k + 1) (a + b) = k + 1 by omega, show min k (a + b) = k by omega, take_snoc hx, drop_snoc (by simp; omega)]
theorem rsK_out (h2 : a + b ≤ k) : rsK ws a b (k + 1) = rsK ws a b k := by
  unfold rsK
  rw [show min (k + 1) (a + b) = a + b by omega, show min k (a + b) = a + b by omega]
theorem csK_lo (hk : k < a + b) : csK ws a b (k + 1) = csK ws a b k := by
  unfold csK
  rw [List.drop_of_length_le (by simp; omega), List.drop_of_length_le (by simp; omega)]
theorem csK_in (hx : ws[k]? = some xs) (h1 : a + b ≤ k) : csK ws a b (k + 1) = csK ws a b k ++ [xs] := by
  have hl := (List.getElem?_eq_some_iff.1 hx).1
  unfold csK
  rw [take_snoc hx, drop_snoc (by simp; omega)]
end
theorem k_start (ws : List (List Int)) (a b : Nat) : lsK ws a b 0 = [] ∧ rsK ws a b 0 = [] ∧ csK ws a b 0 = [] := by simp [lsK, rsK, csK]
theorem k_end {ws : List (List Int)} {a b : Nat} (h : a + b ≤ ws.length) : lsK ws a b ws.length = ws.take a ∧ rsK ws a b ws.length = (ws.drop a).take b ∧ csK ws a b ws.length = ws.drop (a + b) := by
  refine ⟨by unfold lsK; rw [show min ws.length a = a by omega], ?_, by simp [csK]⟩
  unfold rsK
  rw [show min ws.length (a + b) = a + b by omega, List.drop_take]
  congr 1; omega
theorem fx_ty {w : World} {A : Option Addr} {n c : Nat} {us : List Value} {xss : List (List Int)} (h : OwnX w A n c us xss) {k : Nat} (hk : FX A n c us k) : ∃ cs T, w.heap[k]? = some (.cells cs T (0, 0)) ∧ (T = 25 ∨ T = 2) := by
  rcases hk with hk | hk
  · obtain ⟨cs, hc⟩ := own_fo h.1 hk; exact ⟨cs, _, hc, .inl rfl⟩
  · obtain ⟨cs, hc⟩ := inner_fo h.2 hk; exact ⟨cs, _, hc, .inr rfl⟩
theorem fx_set {w : World} {g : Nat} {m : Int} {A1 : Option Addr} {n1 c1 : Nat} {A2 : Option Addr} {n2 c2 : Nat} {A3 : Option Addr} {n3 c3 : Nat} {A4 : Option Addr} {n4 c4 : Nat} (hb : BS w g m A1 n1 c1 A2 n2 c2 A3 n3 c3 A4 n4 c4)
    {A : Option Addr} {n c : Nat} {us : List Value} {xss : List (List Int)} (h : OwnX w A n c us xss) : ¬ FX A n c us g := by
  intro hk
  obtain ⟨cs, T, hc, hT⟩ := fx_ty h hk
  unfold BS at hb
  rw [hb] at hc
  injection hc with hc
  injection hc with _ h2
  rcases hT with hT | hT <;> rw [hT] at h2 <;> exact absurd h2 (by decide)
/-- The parts while they are being laid: k words are through. -/
structure St (w wr : World) (g : Nat) (m : Int) (A4 : Option Addr) (n4 c4 : Nat) (sts : List Int) (ws : List (List Int)) (a b k : Nat) (A1 : Option Addr) (n1 c1 : Nat) (u1 : List Value) (A2 : Option Addr) (n2 c2 : Nat) (u2 : List Value) (A3 : Option Addr) (n3 c3 : Nat) (u3 : List Value) : Prop where
  bs : BS wr g m A1 n1 c1 A2 n2 c2 A3 n3 c3 A4 n4 c4
  o1 : OwnX wr A1 n1 c1 u1 (lsK ws a b k)
  o2 : OwnX wr A2 n2 c2 u2 (rsK ws a b k)
  o3 : OwnX wr A3 n3 c3 u3 (csK ws a b k)
  o4 : wr.ownsRow w.heap.size 2 1 (.slice A4 n4 c4) n4 (ints sts)
  lo : ∀ q, FX A1 n1 c1 u1 q ∨ FX A2 n2 c2 u2 q ∨ FX A3 n3 c3 u3 q → w.heap.size ≤ q
  d12 : ∀ q, FX A1 n1 c1 u1 q → FX A2 n2 c2 u2 q → False
  d13 : ∀ q, FX A1 n1 c1 u1 q → FX A3 n3 c3 u3 q → False
  d23 : ∀ q, FX A2 n2 c2 u2 q → FX A3 n3 c3 u3 q → False
  d14 : ∀ q, FX A1 n1 c1 u1 q → Fo (.slice A4 n4 c4) q → False
  d24 : ∀ q, FX A2 n2 c2 u2 q → Fo (.slice A4 n4 c4) q → False
  d34 : ∀ q, FX A3 n3 c3 u3 q → Fo (.slice A4 n4 c4) q → False
  hb : Below w.heap.size w wr
  glo : w.heap.size ≤ g
theorem o4_set {w : World} {g : Nat} {m : Int} {A1 : Option Addr} {n1 c1 : Nat} {A2 : Option Addr} {n2 c2 : Nat} {A3 : Option Addr} {n3 c3 : Nat} {A4 : Option Addr} {n4 c4 : Nat} (hb : BS w g m A1 n1 c1 A2 n2 c2 A3 n3 c3 A4 n4 c4)
    {base n c : Nat} {A : Option Addr} {vs : List Value} (h : w.ownsRow base 2 1 (.slice A n c) n vs) : ¬ Fo (.slice A n c) g := by
  intro hk
  obtain ⟨cs, hc⟩ := own_fo h hk
  unfold BS at hb
  rw [hb] at hc
  injection hc with hc
  injection hc with _ h2
  exact absurd h2 (by decide)
section
variable {w wr w2 w4 : World} {g : Nat} {m : Int} {A4 : Option Addr} {n4 c4 : Nat} {sts : List Int} {ws : List (List Int)} {a b k : Nat} {A1 : Option Addr} {n1 c1 : Nat} {u1 : List Value} {A2 : Option Addr} {n2 c2 : Nat} {u2 : List Value} {A3 : Option Addr} {n3 c3 : Nat} {u3 : List Value} {xs : List Int} {B : Option Addr} {nb cb : Nat} {A' : Option Addr} {c' : Nat}
theorem St.step1 (h : St w wr g m A4 n4 c4 sts ws a b k A1 n1 c1 u1 A2 n2 c2 u2 A3 n3 c3 u3) (hx : ws[k]? = some xs) (hk : k < a)
    (hb2 : Below wr.heap.size wr w2) (ho : w2.ownsRow wr.heap.size 2 1 (.slice B nb cb) nb (ints xs)) (hn : nb ≤ 1000000000)
    (ho4 : w4.ownsRow 0 25 1 (.slice A' (n1 + 1) c') (n1 + 1) (u1 ++ [.slice B nb cb])) (hc4 : Ch (Fo (.slice A1 n1 c1)) w2 w4) (hf : ∀ q, Fo (.slice A' (n1 + 1) c') q → Fo (.slice A1 n1 c1) q ∨ w2.heap.size ≤ q) :
    St w (w4.setCell ⟨g, 1, none⟩ (.slice A' (n1 + 1) c')) g m A4 n4 c4 sts ws a b (k + 1) A' (n1 + 1) c' (u1 ++ [.slice B nb cb]) A2 n2 c2 u2 A3 n3 c3 u3 := by
  obtain ⟨hx1, hx2⟩ := h.o1.step hb2 ho hn ho4 hc4 hf
  have hs2 := hb2.size
  have hc : Ch (fun q => Fo (.slice A1 n1 c1) q) wr w4 := (ch_below hb2).trans hc4
  have hg1 := fx_set h.bs h.o1
  have hbs4 : BS w4 g m A1 n1 c1 A2 n2 c2 A3 n3 c3 A4 n4 c4 := blk_ch h.bs hc (fun hq => hg1 (.inl hq))
  have hlt : g < wr.heap.size := blk_lt h.bs
  have hcs := ch_set w4 g 1 (.slice A' (n1 + 1) c')
  have hcc : Ch (fun q => Fo (.slice A1 n1 c1) q ∨ q = g) wr (w4.setCell ⟨g, 1, none⟩ (.slice A' (n1 + 1) c')) := (hc.mono (fun q hq => .inl hq)).trans (hcs.mono (fun q hq => .inr hq))
  have hw : w.heap.size ≤ wr.heap.size := h.hb.size
  refine ⟨?_, ?_, ?_, ?_, ?_, ?_, ?_, ?_, h.d23, ?_, h.d24, h.d34, ?_, h.glo⟩
  · have := blk_set hbs4 1 (.slice A' (n1 + 1) c'); simpa [BS] using this
  · rw [lsK_in hx hk]
    exact hx1.ch hcs (fun q hq e => by subst e; rcases hx2 q hq with h1 | h1; exact hg1 h1; omega)
  · rw [rsK_lo hk]
    exact h.o2.ch hcc (fun q hq e => by rcases e with e | e; exact h.d12 q (.inl e) hq; subst e; exact fx_set h.bs h.o2 hq)
  · rw [csK_lo (by omega)]
    exact h.o3.ch hcc (fun q hq e => by rcases e with e | e; exact h.d13 q (.inl e) hq; subst e; exact fx_set h.bs h.o3 hq)
  · exact own_ch h.o4 hcc (fun q hq e => by rcases e with e | e; exact h.d14 q (.inl e) hq; subst e; exact o4_set h.bs h.o4 hq)
  · intro q hq
    rcases hq with hq | hq
    · rcases hx2 q hq with h1 | h1
      · exact h.lo q (.inl h1)
      · omega
    · exact h.lo q (.inr hq)
  · intro q h1 h2
    rcases hx2 q h1 with h3 | h3
    · exact h.d12 q h3 h2
    · have := h.o2.lt h2; omega
  · intro q h1 h2
    rcases hx2 q h1 with h3 | h3
    · exact h.d13 q h3 h2
    · have := h.o3.lt h2; omega
  · intro q h1 h2
    rcases hx2 q h1 with h3 | h3
    · exact h.d14 q h3 h2
    · have := (h.o4.lt q h2).2; omega
  · exact below_ch h.hb hcc (fun q hq => by rcases hq with hq | hq; exact h.lo q (.inl (.inl hq)); subst hq; exact h.glo) hw
theorem St.step2 (h : St w wr g m A4 n4 c4 sts ws a b k A1 n1 c1 u1 A2 n2 c2 u2 A3 n3 c3 u3) (hx : ws[k]? = some xs) (hk : a ≤ k) (hk2 : k < a + b)
    (hb2 : Below wr.heap.size wr w2) (ho : w2.ownsRow wr.heap.size 2 1 (.slice B nb cb) nb (ints xs)) (hn : nb ≤ 1000000000)
    (ho4 : w4.ownsRow 0 25 1 (.slice A' (n2 + 1) c') (n2 + 1) (u2 ++ [.slice B nb cb])) (hc4 : Ch (Fo (.slice A2 n2 c2)) w2 w4) (hf : ∀ q, Fo (.slice A' (n2 + 1) c') q → Fo (.slice A2 n2 c2) q ∨ w2.heap.size ≤ q) :
    St w (w4.setCell ⟨g, 2, none⟩ (.slice A' (n2 + 1) c')) g m A4 n4 c4 sts ws a b (k + 1) A1 n1 c1 u1 A' (n2 + 1) c' (u2 ++ [.slice B nb cb]) A3 n3 c3 u3 := by
  obtain ⟨hx1, hx2⟩ := h.o2.step hb2 ho hn ho4 hc4 hf
  have hs2 := hb2.size
  have hc : Ch (fun q => Fo (.slice A2 n2 c2) q) wr w4 := (ch_below hb2).trans hc4
  have hg1 := fx_set h.bs h.o2
  have hbs4 : BS w4 g m A1 n1 c1 A2 n2 c2 A3 n3 c3 A4 n4 c4 := blk_ch h.bs hc (fun hq => hg1 (.inl hq))
  have hlt : g < wr.heap.size := blk_lt h.bs
  have hcs := ch_set w4 g 2 (.slice A' (n2 + 1) c')
  have hcc : Ch (fun q => Fo (.slice A2 n2 c2) q ∨ q = g) wr (w4.setCell ⟨g, 2, none⟩ (.slice A' (n2 + 1) c')) := (hc.mono (fun q hq => .inl hq)).trans (hcs.mono (fun q hq => .inr hq))
  have hw : w.heap.size ≤ wr.heap.size := h.hb.size
  refine ⟨?_, ?_, ?_, ?_, ?_, ?_, ?_, h.d13, ?_, h.d14, ?_, h.d34, ?_, h.glo⟩
  · have := blk_set hbs4 2 (.slice A' (n2 + 1) c'); simpa [BS] using this
  · rw [lsK_out hk]
    exact h.o1.ch hcc (fun q hq e => by rcases e with e | e; exact h.d12 q hq (.inl e); subst e; exact fx_set h.bs h.o1 hq)
  · rw [rsK_in hx hk hk2]
    exact hx1.ch hcs (fun q hq e => by subst e; rcases hx2 q hq with h1 | h1; exact hg1 h1; omega)
  · rw [csK_lo hk2]
    exact h.o3.ch hcc (fun q hq e => by rcases e with e | e; exact h.d23 q (.inl e) hq; subst e; exact fx_set h.bs h.o3 hq)
  · exact own_ch h.o4 hcc (fun q hq e => by rcases e with e | e; exact h.d24 q (.inl e) hq; subst e; exact o4_set h.bs h.o4 hq)
  · intro q hq
    rcases hq with hq | hq | hq
    · exact h.lo q (.inl hq)
    · rcases hx2 q hq with h1 | h1
      · exact h.lo q (.inr (.inl h1))
      · omega
    · exact h.lo q (.inr (.inr hq))
  · intro q h1 h2
    rcases hx2 q h2 with h3 | h3
    · exact h.d12 q h1 h3
    · have := h.o1.lt h1; omega
  · intro q h1 h2
    rcases hx2 q h1 with h3 | h3
    · exact h.d23 q h3 h2
    · have := h.o3.lt h2; omega
  · intro q h1 h2
    rcases hx2 q h1 with h3 | h3
    · exact h.d24 q h3 h2
    · have := (h.o4.lt q h2).2; omega
  · exact below_ch h.hb hcc (fun q hq => by rcases hq with hq | hq; exact h.lo q (.inr (.inl (.inl hq))); subst hq; exact h.glo) hw
theorem St.step3 (h : St w wr g m A4 n4 c4 sts ws a b k A1 n1 c1 u1 A2 n2 c2 u2 A3 n3 c3 u3) (hx : ws[k]? = some xs) (hk2 : a + b ≤ k)
    (hb2 : Below wr.heap.size wr w2) (ho : w2.ownsRow wr.heap.size 2 1 (.slice B nb cb) nb (ints xs)) (hn : nb ≤ 1000000000)
    (ho4 : w4.ownsRow 0 25 1 (.slice A' (n3 + 1) c') (n3 + 1) (u3 ++ [.slice B nb cb])) (hc4 : Ch (Fo (.slice A3 n3 c3)) w2 w4) (hf : ∀ q, Fo (.slice A' (n3 + 1) c') q → Fo (.slice A3 n3 c3) q ∨ w2.heap.size ≤ q) :
    St w (w4.setCell ⟨g, 3, none⟩ (.slice A' (n3 + 1) c')) g m A4 n4 c4 sts ws a b (k + 1) A1 n1 c1 u1 A2 n2 c2 u2 A' (n3 + 1) c' (u3 ++ [.slice B nb cb]) := by
  obtain ⟨hx1, hx2⟩ := h.o3.step hb2 ho hn ho4 hc4 hf
  have hs2 := hb2.size
  have hc : Ch (fun q => Fo (.slice A3 n3 c3) q) wr w4 := (ch_below hb2).trans hc4
  have hg1 := fx_set h.bs h.o3
  have hbs4 : BS w4 g m A1 n1 c1 A2 n2 c2 A3 n3 c3 A4 n4 c4 := blk_ch h.bs hc (fun hq => hg1 (.inl hq))
  have hlt : g < wr.heap.size := blk_lt h.bs
  have hcs := ch_set w4 g 3 (.slice A' (n3 + 1) c')
  have hcc : Ch (fun q => Fo (.slice A3 n3 c3) q ∨ q = g) wr (w4.setCell ⟨g, 3, none⟩ (.slice A' (n3 + 1) c')) := (hc.mono (fun q hq => .inl hq)).trans (hcs.mono (fun q hq => .inr hq))
  have hw : w.heap.size ≤ wr.heap.size := h.hb.size
  refine ⟨?_, ?_, ?_, ?_, ?_, ?_, h.d12, ?_, ?_, h.d14, h.d24, ?_, ?_, h.glo⟩
  · have := blk_set hbs4 3 (.slice A' (n3 + 1) c'); simpa [BS] using this
  · rw [lsK_out (by omega)]
    exact h.o1.ch hcc (fun q hq e => by rcases e with e | e; exact h.d13 q hq (.inl e); subst e; exact fx_set h.bs h.o1 hq)
  · rw [rsK_out hk2]
    exact h.o2.ch hcc (fun q hq e => by rcases e with e | e; exact h.d23 q hq (.inl e); subst e; exact fx_set h.bs h.o2 hq)
  · rw [csK_in hx hk2]
    exact hx1.ch hcs (fun q hq e => by subst e; rcases hx2 q hq with h1 | h1; exact hg1 h1; omega)
  · exact own_ch h.o4 hcc (fun q hq e => by rcases e with e | e; exact h.d34 q (.inl e) hq; subst e; exact o4_set h.bs h.o4 hq)
  · intro q hq
    rcases hq with hq | hq | hq
    · exact h.lo q (.inl hq)
    · exact h.lo q (.inr (.inl hq))
    · rcases hx2 q hq with h1 | h1
      · exact h.lo q (.inr (.inr h1))
      · omega
  · intro q h1 h2
    rcases hx2 q h2 with h3 | h3
    · exact h.d13 q h1 h3
    · have := h.o1.lt h1; omega
  · intro q h1 h2
    rcases hx2 q h2 with h3 | h3
    · exact h.d23 q h1 h3
    · have := h.o2.lt h1; omega
  · intro q h1 h2
    rcases hx2 q h1 with h3 | h3
    · exact h.d34 q h3 h2
    · have := (h.o4.lt q h2).2; omega
  · exact below_ch h.hb hcc (fun q hq => by rcases hq with hq | hq; exact h.lo q (.inr (.inr (.inl hq))); subst hq; exact h.glo) hw
end
end Go.Proofs.Ytcpkhhammafchaa
/- Proofs by contexts: the parts of one (reference). -/
namespace Go.Proofs.Ytcpkhhammafchaa
open Go.RowKit
set_option linter.unusedVariables false
set_option linter.unusedSimpArgs false
/-- The reference's parts and whether there are some. -/
def InPost (w : World) (m : Int) (ls rs cs : List (List Int)) (sts : List Int) (ok : Bool) (e : Ending) (w' : World) : Prop :=
  ∃ v : Value, e = .returned (.tuple #[v, .bool ok]) ∧ Below w.heap.size w w' ∧ (ok = true → ∃ (g : Nat) (A1 : Option Addr) (n1 c1 : Nat) (u1 : List Value) (A2 : Option Addr) (n2 c2 : Nat) (u2 : List Value) (A3 : Option Addr) (n3 c3 : Nat) (u3 : List Value) (A4 : Option Addr) (n4 c4 : Nat), v = .pointer (some ⟨g, 0, none⟩) ∧ BS w' g m A1 n1 c1 A2 n2 c2 A3 n3 c3 A4 n4 c4 ∧
    OwnX w' A1 n1 c1 u1 ls ∧ OwnX w' A2 n2 c2 u2 rs ∧ OwnX w' A3 n3 c3 u3 cs ∧ w'.ownsRow w.heap.size 2 1 (.slice A4 n4 c4) n4 (ints sts) ∧ (∀ q, FX A1 n1 c1 u1 q ∨ FX A2 n2 c2 u2 q ∨ FX A3 n3 c3 u3 q → w.heap.size ≤ q) ∧
    (∀ q, FX A1 n1 c1 u1 q → FX A2 n2 c2 u2 q → False) ∧ (∀ q, FX A1 n1 c1 u1 q → FX A3 n3 c3 u3 q → False) ∧ (∀ q, FX A2 n2 c2 u2 q → FX A3 n3 c3 u3 q → False) ∧ (∀ q, FX A1 n1 c1 u1 q → Fo (.slice A4 n4 c4) q → False) ∧ (∀ q, FX A2 n2 c2 u2 q → Fo (.slice A4 n4 c4) q → False) ∧ (∀ q, FX A3 n3 c3 u3 q → Fo (.slice A4 n4 c4) q → False) ∧ w.heap.size ≤ g)
set_option maxHeartbeats 48000000 in
set_option maxRecDepth 100000 in
theorem l29In_g1 (w : World) (g : Nat) (k : Int) (A1 : Option Addr) (n1 c1 : Nat) (A2 : Option Addr) (n2 c2 : Nat) (hp : BP w g k A1 n1 c1 A2 n2 c2) (ns : List Int) (hr1 : Rd w A1 n1 (ints ns)) (hn1 : n1 ≤ 1000000000) (m : Int) (ls rs cs : List (List Int)) (sts : List Int) (hg : g1 k ns = false) :
    Calls Try.prog 75 #[.pointer (some ⟨g, 0, none⟩)] w (InPost w m ls rs cs sts false) := by
  obtain ⟨q0, q1, q2⟩ := hp.cells
  have hl : ns.length = n1 := by simpa using hr1.1
  rcases g1_cases k ns n1 hl with ⟨h1, h2⟩ | ⟨h1, h2, h3⟩ | ⟨h1, h2, h3⟩
  · have hne : (k != 8) = true := by simpa using h1
    clear hg h2 hl
    go_enter Try.func75, Try.ntmps75
    go_wp2_with fail
    go_ret2
    exact ⟨.pointer none, rfl, Below.refl _ _, by simp⟩
  · subst h1
    have hlt : (n1 : Int) < 3 := by omega
    clear hg h3 hl
    go_enter Try.func75, Try.ntmps75
    go_wp2_with fail
    go_ret2
    exact ⟨.pointer none, rfl, Below.refl _ _, by simp⟩
  · subst h1
    rw [h3] at hg
    have HG := Lib.hid hg
    have hlt : ¬ (n1 : Int) < 3 := by omega
    obtain ⟨b, off, rfl, hbs, r0⟩ := hr1.at_ (ints_get (num_at (ns := ns) (i := 0) (by omega)))
    have hp : ns.getD 0 0 = pN ns := rfl
    rw [hp] at r0
    simp only [Nat.add_zero] at r0
    generalize pN ns = z at *
    have i1 : (0 : Int) < (n1 : Int) := by omega
    clear hg h3 hl h2 hp
    go_enter Try.func75, Try.ntmps75
    go_wp2_with fail
    refine (l29Size_any _ _).mono ?_
    rw [HG.out]
    rintro e w3 ⟨rfl, rfl⟩
    go_wp2_with fail
    go_ret2
    exact ⟨.pointer none, rfl, Below.refl _ _, by simp⟩
theorem num_bd' {ns : List Int} {i : Nat} (h : allIn ns (-1000000000000) 1000000000000 = true) (hi : i < ns.length) : -1000000000000 ≤ ns.getD i 0 ∧ ns.getD i 0 ≤ 1000000000000 := allIn_true.1 h _ (List.mem_of_getElem? (num_at hi))
theorem s2_cases (ns : List Int) (n1 n2 : Nat) (hl : ns.length = n1) : (inB (pA ns) 0 n2 = false ∧ s2 ns n2 = false) ∨ (inB (pA ns) 0 n2 = true ∧ inB (pB ns) 0 ((n2 : Int) - pA ns) = false ∧ s2 ns n2 = false) ∨ (inB (pA ns) 0 n2 = true ∧ inB (pB ns) 0 ((n2 : Int) - pA ns) = true ∧ ((n1 : Int) != 3 + (n2 : Int) - pA ns - pB ns) = true ∧ s2 ns n2 = false) ∨ (inB (pA ns) 0 n2 = true ∧ inB (pB ns) 0 ((n2 : Int) - pA ns) = true ∧ ((n1 : Int) != 3 + (n2 : Int) - pA ns - pB ns) = false ∧ s2 ns n2 = true) := by
  subst hl
  unfold s2
  cases inB (pA ns) 0 n2 <;> cases inB (pB ns) 0 ((n2 : Int) - pA ns) <;> simp
  by_cases h : (ns.length : Int) = 3 + (n2 : Int) - pA ns - pB ns <;> simp [h]
set_option maxHeartbeats 88000000 in
set_option maxRecDepth 100000 in
theorem l29In_s2 (w : World) (g : Nat) (k : Int) (A1 : Option Addr) (n1 c1 : Nat) (A2 : Option Addr) (n2 c2 : Nat) (hp : BP w g k A1 n1 c1 A2 n2 c2) (ns : List Int) (hr1 : Rd w A1 n1 (ints ns)) (ws : List (List Int)) (hl2 : ws.length = n2) (m : Int) (ls rs cs : List (List Int)) (sts : List Int) (hok : okP k ns ws = true) (hg1 : g1 k ns = true) (hs2 : s2 ns n2 = false) :
    Calls Try.prog 75 #[.pointer (some ⟨g, 0, none⟩)] w (InPost w m ls rs cs sts false) := by
  obtain ⟨rfl, h3, _, _⟩ := g1_bd hg1
  obtain ⟨_, hn1, hn2, hbd, _⟩ := okP_bd hok
  have hi : inB (pN ns) 1 4 = true := by simp only [g1, Bool.and_eq_true] at hg1; exact hg1.2
  have hl : ns.length = n1 := by simpa using hr1.1
  rw [hl] at h3 hn1
  rw [hl2] at hn2
  obtain ⟨q0, q1, q2⟩ := hp.cells
  have HI := Lib.hid hi
  obtain ⟨b, off, hA, hbs, r0⟩ := hr1.at_ (ints_get (num_at (ns := ns) (i := 0) (by omega)))
  obtain ⟨b', off', hA', _, r1⟩ := hr1.at_ (ints_get (num_at (ns := ns) (i := 1) (by omega)))
  obtain ⟨b'', off'', hA'', _, r2⟩ := hr1.at_ (ints_get (num_at (ns := ns) (i := 2) (by omega)))
  subst hA
  injection hA' with hA'
  injection hA' with e1 e2
  subst e1 e2
  injection hA'' with hA''
  injection hA'' with e1 e2
  subst e1 e2
  have hba := num_bd' (i := 1) hbd (by omega)
  have hbb := num_bd' (i := 2) hbd (by omega)
  have ep : ns.getD 0 0 = pN ns := rfl
  have ea : ns.getD 1 0 = pA ns := rfl
  have eb : ns.getD 2 0 = pB ns := rfl
  rw [ep] at r0
  rw [ea] at r1 hba
  rw [eb] at r2 hbb
  simp only [Nat.add_zero] at r0
  have hcs := s2_cases ns n1 n2 hl
  rw [hs2] at hcs
  have i0 : (0 : Int) < (n1 : Int) := by omega
  have i1 : (1 : Int) < (n1 : Int) := by omega
  have i2 : (2 : Int) < (n1 : Int) := by omega
  have j1 : 1 < n1 := by omega
  have j2 : 2 < n1 := by omega
  have i3 : ¬ (n1 : Int) < 3 := by omega
  clear hr1 hl hok hg1 hbd hl2 hi ep ea eb h3 hp hs2
  generalize pN ns = z at *
  generalize pA ns = a at *
  generalize pB ns = b2 at *
  have hw1 : IntKind.i64.wrap ((n2 : Int) - a) = (n2 : Int) - a := IntWalk.i64_in _ (by omega)
  have hw2 : IntKind.i64.wrap (3 + (n2 : Int)) = 3 + (n2 : Int) := IntWalk.i64_in _ (by omega)
  have hw3 : IntKind.i64.wrap (3 + (n2 : Int) - a) = 3 + (n2 : Int) - a := IntWalk.i64_in _ (by omega)
  have hw4 : IntKind.i64.wrap (3 + (n2 : Int) - a - b2) = 3 + (n2 : Int) - a - b2 := IntWalk.i64_in _ (by omega)
  rcases hcs with ⟨h1, _⟩ | ⟨h1, h2, _⟩ | ⟨h1, h2, h4, _⟩ | ⟨_, _, _, h5⟩
  · have H1 := Lib.hid h1
    clear h1
    go_enter Try.func75, Try.ntmps75
    go_wp2_with fail
    refine (l29Size_any _ _).mono ?_
    rw [HI.out]
    rintro e w3 ⟨rfl, rfl⟩
    go_wp2_with fail
    refine (l00In_any _ _ _ _).mono ?_
    rw [H1.out]
    rintro e w3 ⟨rfl, rfl⟩
    go_wp2_with fail
    go_ret2
    exact ⟨.pointer none, rfl, Below.refl _ _, by simp⟩
  · have H1 := Lib.hid h1; have H2 := Lib.hid h2
    clear h1 h2
    go_enter Try.func75, Try.ntmps75
    go_wp2_with fail
    refine (l29Size_any _ _).mono ?_
    rw [HI.out]
    rintro e w3 ⟨rfl, rfl⟩
    go_wp2_with fail
    refine (l00In_any _ _ _ _).mono ?_
    rw [H1.out]
    rintro e w3 ⟨rfl, rfl⟩
    go_wp2_with fail
    refine (l00In_any _ _ _ _).mono ?_
    rw [H2.out]
    rintro e w3 ⟨rfl, rfl⟩
    go_wp2_with fail
    go_ret2
    exact ⟨.pointer none, rfl, Below.refl _ _, by simp⟩
  · have H1 := Lib.hid h1; have H2 := Lib.hid h2
    clear h1 h2
    go_enter Try.func75, Try.ntmps75
    go_wp2_with fail
    refine (l29Size_any _ _).mono ?_
    rw [HI.out]
    rintro e w3 ⟨rfl, rfl⟩
    go_wp2_with fail
    refine (l00In_any _ _ _ _).mono ?_
    rw [H1.out]
    rintro e w3 ⟨rfl, rfl⟩
    go_wp2_with fail
    refine (l00In_any _ _ _ _).mono ?_
    rw [H2.out]
    rintro e w3 ⟨rfl, rfl⟩
    go_wp2_with fail
    go_ret2
    exact ⟨.pointer none, rfl, Below.refl _ _, by simp⟩
  · cases h5
end Go.Proofs.Ytcpkhhammafchaa
/- Proofs by contexts: the parts of one, where its numbers fit (reference). -/
namespace Go.Proofs.Ytcpkhhammafchaa
open Go.RowKit
set_option linter.unusedVariables false
set_option linter.unusedSimpArgs false
theorem St.start {w w2 : World} {z : Int} {A4 : Option Addr} {n4 c4 : Nat} {sts : List Int} {ws : List (List Int)} {a b : Nat} (hb : Below w.heap.size w w2) (ho : w2.ownsRow w.heap.size 2 1 (.slice A4 n4 c4) n4 (ints sts)) :
    St w (w2.alloc (.cells #[.int .i64 z, .slice none 0 0, .slice none 0 0, .slice none 0 0, .slice A4 n4 c4] 117)) w2.heap.size z A4 n4 c4 sts ws a b 0 none 0 0 [] none 0 0 [] none 0 0 [] := by
  obtain ⟨e1, e2, e3⟩ := k_start ws a b
  refine ⟨box_new _ _ _, by rw [e1]; exact OwnX.nil _, by rw [e2]; exact OwnX.nil _, by rw [e3]; exact OwnX.nil _, ownN_below ho (below_new _ _) (Nat.le_refl _), ?_, ?_, ?_, ?_, ?_, ?_, ?_, hb.trans ((below_new _ _).mono hb.size), hb.size⟩
  · intro q hq; rcases hq with hq | hq | hq <;> exact (fx_nil q hq).elim
  all_goals exact fun q h1 h2 => fx_nil q h1
theorem getI_drop {ns : List Int} {j : Nat} {x : Int} (h : (ns.drop 3)[j]? = some x) : natAt ns j = decide (0 ≤ x) := by rw [natAt, getI_of h]
set_option maxHeartbeats 16000000 in
set_option maxRecDepth 100000 in
theorem l29In_go (w : World) (g : Nat) (k : Int) (A1 : Option Addr) (n1 c1 : Nat) (A2 : Option Addr) (n2 c2 : Nat) (hp : BP w g k A1 n1 c1 A2 n2 c2) (ns : List Int) (hr1 : Rd w A1 n1 (ints ns)) (hc1 : n1 ≤ c1) (ws : List (List Int)) (hr2 : RdL w A2 n2 ws) (hok : okP k ns ws = true) (hg1 : g1 k ns = true) (hs2 : s2 ns n2 = true) :
    Calls Try.prog 75 #[.pointer (some ⟨g, 0, none⟩)] w (InPost w (pN ns) (lefts ns ws) (rights ns ws) (ctxs ns ws) (ns.drop 3) (csOk k ns ws)) := by
  obtain ⟨rfl, h3, hz1, hz4⟩ := g1_bd hg1
  obtain ⟨_, hn1, hn2, hbd, _⟩ := okP_bd hok
  have hi : inB (pN ns) 1 4 = true := by simp only [g1, Bool.and_eq_true] at hg1; exact hg1.2
  have hl : ns.length = n1 := by simpa using hr1.1
  have hl2 : ws.length = n2 := hr2.len
  rw [hl] at h3 hn1
  rw [hl2] at hn2
  obtain ⟨a, b2, hna, hnb, hab, habn⟩ := s2_bd hs2
  rw [hl] at habn
  have HEND : Hid (∀ j, allTo (natAt ns) j = true → n1 - 3 ≤ j → csOk 8 ns ws = ((ctxs ns ws).all (lenW (2 * pN ns + 1)) && sortS (pN ns) (lefts ns ws) (rights ns ws) (ctxs ns ws) (ns.drop 3))) := Lib.hid (fun j h1 h2 => cs_end hok hg1 (by rw [hl2]; exact hs2) (by rw [hl]; exact allTo_le h1 h2))
  have HNEG : Hid (∀ j, j < n1 - 3 → natAt ns j = false → csOk 8 ns ws = false) := Lib.hid (fun j h1 h2 => cs_nat hok hg1 (by rw [hl2]; exact hs2) (by rw [hl]; exact allTo_out h1 h2))
  have HPARTS : Hid (lsK ws a b2 n2 = lefts ns ws ∧ rsK ws a b2 n2 = rights ns ws ∧ csK ws a b2 n2 = ctxs ns ws) := Lib.hid (by
    have h := k_end (ws := ws) (a := a) (b := b2) (by omega)
    rw [hl2] at h
    simp only [lefts, rights, ctxs, hna, hnb, Int.toNat_natCast]
    exact h)
  obtain ⟨q0, q1, q2⟩ := hp.cells
  have HP := Lib.hid hp
  have HI := Lib.hid hi
  obtain ⟨b, off, hA, hbs, r0⟩ := hr1.at_ (ints_get (num_at (ns := ns) (i := 0) (by omega)))
  obtain ⟨b', off', hA', _, r1⟩ := hr1.at_ (ints_get (num_at (ns := ns) (i := 1) (by omega)))
  obtain ⟨b'', off'', hA'', _, r2⟩ := hr1.at_ (ints_get (num_at (ns := ns) (i := 2) (by omega)))
  subst hA
  injection hA' with hA'
  injection hA' with e1 e2
  subst e1 e2
  injection hA'' with hA''
  injection hA'' with e1 e2
  subst e1 e2
  have ep : ns.getD 0 0 = pN ns := rfl
  have ea : ns.getD 1 0 = pA ns := rfl
  have eb : ns.getD 2 0 = pB ns := rfl
  rw [ep] at r0
  rw [ea, hna] at r1
  rw [eb, hnb] at r2
  simp only [Nat.add_zero] at r0
  have hcs := s2_cases ns n1 n2 hl
  rw [hs2, hna, hnb] at hcs
  have i0 : (0 : Int) < (n1 : Int) := by omega
  have i1 : (1 : Int) < (n1 : Int) := by omega
  have i2 : (2 : Int) < (n1 : Int) := by omega
  have j0 : 0 < n1 := by omega
  have j1 : 1 < n1 := by omega
  have j2 : 2 < n1 := by omega
  have i3 : ¬ (n1 : Int) < 3 := by omega
  have hct := fun (w : World) => run_cutF Try.underlying25 Try.szI w (some ⟨b, off, none⟩) n1 c1 3 3 .i64 rfl (by omega)
  have HR3 : Hid (Rd w (cutA (some ⟨b, off, none⟩) 3 c1 1) (n1 - 3) (ints (ns.drop 3))) := Lib.hid (by have h := hr1.cut 3 c1 (by omega) hc1; rwa [← List.map_drop] at h)
  have HL3 : Hid ((ns.drop 3).length = n1 - 3) := Lib.hid (by simp [hl])
  have HR2 := Lib.hid hr2
  have HL2 := Lib.hid hl2
  have HGD : Hid (∀ j x, (ns.drop 3)[j]? = some x → natAt ns j = decide (0 ≤ x)) := Lib.hid (fun j x h => getI_drop h)
  have HN3 : Hid (n1 - 3 = n2 - (a + b2)) := Lib.hid (by omega)
  have hn3' : n1 - 3 ≤ 300 := by omega
  clear hr1 hl hok hg1 hbd hl2 hi ep ea eb h3 hp hs2 hr2 hna hnb habn
  generalize cutA (some ⟨b, off, none⟩) 3 c1 1 = A3 at *
  generalize hn3e : n1 - 3 = n3 at *
  generalize c1 - 3 = c3 at *
  generalize pN ns = z at *
  generalize ns.drop 3 = sts at *
  clear hn3e
  have hw1 : IntKind.i64.wrap ((n2 : Int) - (a : Int)) = (n2 : Int) - a := IntWalk.i64_in _ (by omega)
  have hw2 : IntKind.i64.wrap (3 + (n2 : Int)) = 3 + (n2 : Int) := IntWalk.i64_in _ (by omega)
  have hw3 : IntKind.i64.wrap (3 + (n2 : Int) - a) = 3 + (n2 : Int) - a := IntWalk.i64_in _ (by omega)
  have hw4 : IntKind.i64.wrap (3 + (n2 : Int) - a - b2) = 3 + (n2 : Int) - a - b2 := IntWalk.i64_in _ (by omega)
  have hw5 : IntKind.i64.wrap ((a : Int) + (b2 : Int)) = (a : Int) + (b2 : Int) := IntWalk.i64_in _ (by omega)
  have hw6 : IntKind.i64.wrap (2 * z) = 2 * z := IntWalk.i64_in _ (by omega)
  have hw7 : IntKind.i64.wrap (2 * z + 1) = 2 * z + 1 := IntWalk.i64_in _ (by omega)
  rcases hcs with ⟨_, h5⟩ | ⟨_, _, h5⟩ | ⟨_, _, _, h5⟩ | ⟨h1, h2, h4, _⟩
  · cases h5
  · cases h5
  · cases h5
  have H1 := Lib.hid h1; have H2 := Lib.hid h2
  clear h1 h2
  go_enter Try.func75, Try.ntmps75
  go_wp2_with fail
  refine (l29Size_any _ _).mono ?_
  rw [HI.out]
  rintro e w3 ⟨rfl, rfl⟩
  go_wp2_with fail
  refine (l00In_any _ _ _ _).mono ?_
  rw [H1.out]
  rintro e w3 ⟨rfl, rfl⟩
  go_wp2_with fail
  refine (l00In_any _ _ _ _).mono ?_
  rw [H2.out]
  rintro e w3 ⟨rfl, rfl⟩
  clear r1 r2 hw1 hw2 hw3 hw4
  go_upto_region 8 with fail
  go_cut [7] (fun s7 wx => ∃ (g' : Nat) (A4 : Option Addr) (n4 c4 : Nat), s7 = .pointer (some ⟨g', 0, none⟩) ∧ n4 = n3 ∧ St w wx g' z A4 n4 c4 sts ws a b2 0 none 0 0 [] none 0 0 [] none 0 0 [])
  case first =>
    (first
      | (go_region_law (first
          | (go_simp
             go_at_call 117
             refine (l00Own_any _ A3 n3 c3 sts (by exact HR3.out.drew) (by omega)).mono ?_
             rintro e w2 ⟨A4, n4, c4, rfl, ho4, hb4⟩
             have HO4 := Lib.hid ho4
             have HB4 := Lib.hid (und1 hb4)
             clear ho4 hb4
             replace q1 := (HB4.out.cell (p := ⟨g, 1, none⟩) (blk_lt HP.out)).trans q1
             replace r0 := (HB4.out.cell (p := ⟨b, off, none⟩) hbs).trans r0)))
      | fail)
    all_goals
      go_wp2_with fail
      go_meet
      exact ⟨_, _, _, _, rfl, by have h1 := HO4.out.1; have h2 := HL3.out; simp at h1; omega, St.start HB4.out HO4.out⟩
  case rest =>
    obtain ⟨g', A4, n4, c4, rfl, hn4, hst⟩ := hcut
    subst hn4
    have HST := Lib.hid hst
    clear hst q0 q1 q2 r0 hct
    go_wp2_with fail
    go_loopw [8] (fun q wr => ∃ (k : Nat) (A5 : Option Addr) (n5 c5 : Nat) (u5 : List Value) (A6 : Option Addr) (n6 c6 : Nat) (u6 : List Value) (A7 : Option Addr) (n7 c7 : Nat) (u7 : List Value), k ≤ n2 ∧ q = .int .i64 k ∧ Hid (St w wr g' z A4 n4 c4 sts ws a b2 k A5 n5 c5 u5 A6 n6 c6 u6 A7 n7 c7 u7)) (fun q _ => n2 - (intOf q).toNat)
    case atStart => exact ⟨0, _, _, _, _, _, _, _, _, _, _, _, _, by omega, rfl, HST⟩
    case round =>
      clear HST
      obtain ⟨k, A5, n5, c5, u5, A6, n6, c6, u6, A7, n7, c7, u7, hk, rfl, HST⟩ := hrel
      have hb : Below w.heap.size w wr := HST.out.hb
      obtain ⟨q0, q1, q2⟩ := (HP.out.bel hb).cells
      by_cases hlt : k < n2
      · have hlt' : (k : Int) < (n2 : Int) := by omega
        have hk0 : (0 : Int) ≤ (k : Int) := by omega
        obtain ⟨xs, hx⟩ := get_some (xs := ws) (k := k) (by rw [HL2.out]; exact hlt)
        obtain ⟨d, of, D, dn, dc, hA, hds, hc, hdn, hdr⟩ := HR2.out.at_ hx
        subst hA
        replace hc := (hb.cell (p := ⟨d, of + k, none⟩) hds).trans hc
        have hdr' := hdr.below hb (Nat.le_refl _)
        have HX := Lib.hid hx
        clear hx hdr
        go_wp2_with fail
        refine (l00Own_any _ _ _ _ xs hdr' hdn).mono ?_
        rintro e w2 ⟨B, nb, cb, rfl, ho, hb2⟩
        have hnb : nb ≤ 1000000000 := by have h1 := ho.1; have h2 := hdr'.1; simp at h1 h2; omega
        have HO := Lib.hid ho; have HB2 := Lib.hid hb2
        have hbs2 : BS w2 g' z A5 n5 c5 A6 n6 c6 A7 n7 c7 A4 n4 c4 := HST.out.bs.bel hb2
        have HBS2 := Lib.hid hbs2
        obtain ⟨y0, y1, y2, y3, y4⟩ := hbs2.cells
        have hn5 : n5 ≤ 300 := by have h := HST.out.o1.ownp.len; have h2 := HL2.out; unfold lsK at h; simp at h; omega
        have hn6 : n6 ≤ 300 := by have h := HST.out.o2.ownp.len; have h2 := HL2.out; unfold rsK at h; simp at h; omega
        have hn7 : n7 ≤ 300 := by have h := HST.out.o3.ownp.len; have h2 := HL2.out; unfold csK at h; simp at h; omega
        have hlg : g' < w2.heap.size := blk_lt hbs2
        clear ho hb2 hbs2 q0 q1 q2 hc hdr' hb
        by_cases hka : k < a
        · have hka' : (k : Int) < (a : Int) := by omega
          have HOW := Lib.hid (ownN_below HST.out.o1.1 HB2.out (Nat.le_refl _))
          go_wp2_with (at_builtin; go_must (refine wpList_app1O Try.eltS rfl _ _ rfl w2 0 A5 n5 c5 u5 (by rfl) HOW.out (.slice B nb cb) rfl (by rfl) (by omega) ?_); rintro A8 c8 w4 ho4 hc4 hf4; have hbs4 : BS w4 g' z A5 n5 c5 A6 n6 c6 A7 n7 c7 A4 n4 c4 := blk_ch HBS2.out hc4 (fun hq => fx_set HBS2.out (HST.out.o1.below HB2.out) (.inl hq)); have f1 := blk_free hbs4 1; have z1 := hbs4.cells.2.1; have l4 := blk_lt hbs4; have HO4 := Lib.hid ho4; have HC4 := Lib.hid hc4; have HF4 := Lib.hid hf4; clear ho4 hc4 hf4 hbs4)
          go_roundw
          case rel => exact ⟨k + 1, _, _, _, _, _, _, _, _, _, _, _, _, by omega, by go_num, Lib.hid (HST.out.step1 HX.out hka HB2.out HO.out hnb HO4.out HC4.out HF4.out)⟩
          case measure => simp [intOf]; omega
        · have hka' : ¬ (k : Int) < (a : Int) := by omega
          by_cases hkb : k < a + b2
          · have hkb' : (k : Int) < (a : Int) + (b2 : Int) := by omega
            have HOW := Lib.hid (ownN_below HST.out.o2.1 HB2.out (Nat.le_refl _))
            go_wp2_with (at_builtin; go_must (refine wpList_app1O Try.eltS rfl _ _ rfl w2 0 A6 n6 c6 u6 (by rfl) HOW.out (.slice B nb cb) rfl (by rfl) (by omega) ?_); rintro A8 c8 w4 ho4 hc4 hf4; have hbs4 : BS w4 g' z A5 n5 c5 A6 n6 c6 A7 n7 c7 A4 n4 c4 := blk_ch HBS2.out hc4 (fun hq => fx_set HBS2.out (HST.out.o2.below HB2.out) (.inl hq)); have f1 := blk_free hbs4 2; have z1 := hbs4.cells.2.2.1; have l4 := blk_lt hbs4; have HO4 := Lib.hid ho4; have HC4 := Lib.hid hc4; have HF4 := Lib.hid hf4; clear ho4 hc4 hf4 hbs4)
            go_roundw
            case rel => exact ⟨k + 1, _, _, _, _, _, _, _, _, _, _, _, _, by omega, by go_num, Lib.hid (HST.out.step2 HX.out (by omega) hkb HB2.out HO.out hnb HO4.out HC4.out HF4.out)⟩
            case measure => simp [intOf]; omega
          · have hkb' : ¬ (k : Int) < (a : Int) + (b2 : Int) := by omega
            have HOW := Lib.hid (ownN_below HST.out.o3.1 HB2.out (Nat.le_refl _))
            go_wp2_with (at_builtin; go_must (refine wpList_app1O Try.eltS rfl _ _ rfl w2 0 A7 n7 c7 u7 (by rfl) HOW.out (.slice B nb cb) rfl (by rfl) (by omega) ?_); rintro A8 c8 w4 ho4 hc4 hf4; have hbs4 : BS w4 g' z A5 n5 c5 A6 n6 c6 A7 n7 c7 A4 n4 c4 := blk_ch HBS2.out hc4 (fun hq => fx_set HBS2.out (HST.out.o3.below HB2.out) (.inl hq)); have f1 := blk_free hbs4 3; have z1 := hbs4.cells.2.2.2.1; have l4 := blk_lt hbs4; have HO4 := Lib.hid ho4; have HC4 := Lib.hid hc4; have HF4 := Lib.hid hf4; clear ho4 hc4 hf4 hbs4)
            go_roundw
            case rel => exact ⟨k + 1, _, _, _, _, _, _, _, _, _, _, _, _, by omega, by go_num, Lib.hid (HST.out.step3 HX.out (by omega) HB2.out HO.out hnb HO4.out HC4.out HF4.out)⟩
            case measure => simp [intOf]; omega
      · obtain rfl : k = n2 := by omega
        obtain ⟨w6, rfl⟩ : ∃ w6 : World, w6 = wr := ⟨_, rfl⟩
        obtain ⟨y0, y1, y2, y3, y4⟩ := HST.out.bs.cells
        clear hb q0 q1 q2
        go_wp2_with fail
        go_loopw [10] (fun q wr => ∃ j : Nat, j ≤ n4 ∧ q = .int .i64 j ∧ Hid (allTo (natAt ns) j = true) ∧ wr = w6) (fun q _ => n4 - (intOf q).toNat)
        case atStart => exact ⟨0, by omega, rfl, Lib.hid (allTo_zero _), rfl⟩
        case round =>
          obtain ⟨j, hj, rfl, hall, rfl⟩ := hrel
          by_cases hjl : j < n4
          · have hjl' : (j : Int) < (n4 : Int) := by omega
            obtain ⟨x, hx⟩ := get_some (xs := sts) (k := j) (by rw [HL3.out]; exact hjl)
            obtain ⟨gg, hA, _, hlg, hc, _⟩ := own_get HST.out.o4 (ints_get hx)
            subst hA
            have HN := Lib.hid (HGD.out j x hx)
            clear hx
            by_cases hneg : x < 0
            · have HC := Lib.hid (HNEG.out j hjl (by rw [HN.out]; exact decide_eq_false (by omega)))
              go_wp2_with fail
              go_ret2
              exact ⟨.pointer none, by rw [HC.out]; rfl, HST.out.hb, by rw [HC.out]; simp⟩
            · have HNX := Lib.hid (allTo_next hall.out (by rw [HN.out]; exact decide_eq_true (by omega)))
              go_wp2_with fail
              go_roundw
              case rel => exact ⟨j + 1, by omega, by go_num, HNX, by trivial⟩
              case measure => simp [intOf]; omega
          · have HC := Lib.hid (HEND.out j hall.out (by omega))
            obtain ⟨hP1, hP2, hP3⟩ := HPARTS.out
            have ho1 := HST.out.o1
            have ho2 := HST.out.o2
            have ho3 := HST.out.o3
            rw [hP1] at ho1
            rw [hP2] at ho2
            rw [hP3] at ho3
            have hb5 := HST.out.bs
            have hn5 : n5 ≤ 300 := by have h := HST.out.o1.ownp.len; have h2 := HL2.out; unfold lsK at h; simp at h; omega
            have hn6 : n6 ≤ 300 := by have h := HST.out.o2.ownp.len; have h2 := HL2.out; unfold rsK at h; simp at h; omega
            have hn7 : n7 ≤ 300 := by have h := HST.out.o3.ownp.len; have h2 := HL2.out; unfold csK at h; simp at h; omega
            have h47 : n4 = n7 := by have h := HST.out.o3.ownp.len; have h2 := HL2.out; have h3 := HN3.out; unfold csK at h; simp at h; omega
            have hle : ∀ q, Calls Try.prog 118 #[.slice A7 n7 c7, .int .i64 (2 * z + 1)] (wr.drewN q) (fun e w' => e = .returned (.bool ((ctxs ns ws).all (lenW (2 * z + 1)))) ∧ w' = wr.drewN q) := fun q => (l29Lengths_any _ _ _ _ (ctxs ns ws) (by have h := ho3.ownp.rdl; exact h) (by omega) _).mono fun e w' h => ⟨h.1, h.2.symm⟩
            have hso : ∀ q, Calls Try.prog 119 #[.pointer (some ⟨g', 0, none⟩)] (wr.drewN q) (DrP (wr.drewN q) (.bool (sortS z (lefts ns ws) (rights ns ws) (ctxs ns ws) sts))) := fun q => l29Sorted_any (wr.drewN q) g' z A5 n5 c5 A6 n6 c6 A7 n7 c7 A4 n4 c4 (by have h := hb5; exact h) (lefts ns ws) (rights ns ws) (ctxs ns ws) sts (by have h := ho1.ownp.rdl; exact h) (by omega) (by have h := ho2.ownp.rdl; exact h) (by omega) (by have h := ho3.ownp.rdl; exact h) (by omega) (by have h := own_rd HST.out.o4; exact h) h47
            have HLE := Lib.hid (fun q => Calls.quiet_of_same (hle q))
            have HSO := Lib.hid (fun q => Calls.quiet_of (hso q))
            have HO1 := Lib.hid ho1; have HO2 := Lib.hid ho2; have HO3 := Lib.hid ho3
            clear hle hso hP1 hP2 hP3 ho1 ho2 ho3 hb5 h47
            generalize (ctxs ns ws).all (lenW (2 * z + 1)) = u1' at *
            generalize sortS z (lefts ns ws) (rights ns ws) (ctxs ns ws) sts = u2' at *
            cases u1' with
            | false =>
              go_wp2_with fail
              go_quiet (first
                | (go_at_call 118; with_reducible exact HLE.out _)
                | (go_at_call 119; with_reducible exact HSO.out _))
              go_wp2_with fail
              go_ret2
              exact ⟨.pointer (some ⟨g', 0, none⟩), by rw [HC.out]; rfl, below_drewN HST.out.hb, by rw [HC.out]; simp⟩
            | true =>
              go_wp2_with fail
              go_quiet (first
                | (go_at_call 118; with_reducible exact HLE.out _)
                | (go_at_call 119; with_reducible exact HSO.out _))
              go_wp2_with fail
              go_ret2
              have hd : ∀ q, Below wr.heap.size wr (wr.drewN q) := fun q => below_drewN (Below.refl _ _)
              exact ⟨.pointer (some ⟨g', 0, none⟩), by rw [HC.out]; rfl, below_drewN HST.out.hb, fun _ => ⟨g', A5, n5, c5, u5, A6, n6, c6, u6, A7, n7, c7, u7, A4, n4, c4, rfl, HST.out.bs.bel (hd _), HO1.out.below (hd _), HO2.out.below (hd _), HO3.out.below (hd _), ownN_below HST.out.o4 (hd _) (Nat.le_refl _), HST.out.lo, HST.out.d12, HST.out.d13, HST.out.d23, HST.out.d14, HST.out.d24, HST.out.d34, HST.out.glo⟩⟩
end Go.Proofs.Ytcpkhhammafchaa
/- ContextSizes: the reference's answer. -/
namespace Go.Proofs.Ytcpkhhammafchaa
open Go.RowKit
set_option linter.unusedVariables false
set_option linter.unusedSimpArgs false
theorem results_tmp4 {fn : Func} {t u v x : Tmp} (h : fn.results = #[.tmp t, .tmp u, .tmp v, .tmp x]) (tmps : Array Value) (P : Program) (w : World) :
    (results fn tmps).run P w = .ok (.tuple #[tmps.getD t undef, tmps.getD u undef, tmps.getD v undef, tmps.getD x undef]) w := by
  simp [results, h]
theorem results_tmp5 {fn : Func} {t u v x y : Tmp} (h : fn.results = #[.tmp t, .tmp u, .tmp v, .tmp x, .tmp y]) (tmps : Array Value) (P : Program) (w : World) :
    (results fn tmps).run P w = .ok (.tuple #[tmps.getD t undef, tmps.getD u undef, tmps.getD v undef, tmps.getD x undef, tmps.getD y undef]) w := by
  simp [results, h]
theorem l29In_any (w : World) (g : Nat) (k : Int) (A1 : Option Addr) (n1 c1 : Nat) (A2 : Option Addr) (n2 c2 : Nat) (hp : BP w g k A1 n1 c1 A2 n2 c2) (ns : List Int) (hr1 : Rd w A1 n1 (ints ns)) (hn1 : n1 ≤ 1000000000) (hc1 : n1 ≤ c1) (ws : List (List Int)) (hr2 : RdL w A2 n2 ws) (hok : okP k ns ws = true) :
    Calls Try.prog 75 #[.pointer (some ⟨g, 0, none⟩)] w (InPost w (pN ns) (lefts ns ws) (rights ns ws) (ctxs ns ws) (ns.drop 3) (csOk k ns ws)) := by
  cases hg : g1 k ns with
  | false =>
    rw [cs_g1 hg]
    exact l29In_g1 w g k A1 n1 c1 A2 n2 c2 hp ns hr1 hn1 _ _ _ _ _ hg
  | true =>
    cases hs : s2 ns n2 with
    | false =>
      rw [cs_s2 hg (by rw [hr2.len]; exact hs)]
      exact l29In_s2 w g k A1 n1 c1 A2 n2 c2 hp ns hr1 ws hr2.len _ _ _ _ _ hok hg hs
    | true => exact l29In_go w g k A1 n1 c1 A2 n2 c2 hp ns hr1 hc1 ws hr2 hok hg hs
/-- What ContextSizes answers. -/
def csSz (k : Int) (ns : List Int) (ws : List (List Int)) : Int × Int × Int × Int := if csC k ns ws = 0 then (((lefts ns ws).length : Int), ((rights ns ws).length : Int), ((ctxs ns ws).length : Int), 0) else (0, 0, 0, csC k ns ws)
theorem csSz_bad {k : Int} {ns : List Int} {ws : List (List Int)} (h : okP k ns ws = false) : csSz k ns ws = (0, 0, 0, 1) := by simp [csSz, csC_bad h]
theorem csSz_no {k : Int} {ns : List Int} {ws : List (List Int)} (h : okP k ns ws = true) (h2 : csOk k ns ws = false) : csSz k ns ws = (0, 0, 0, 2) := by simp [csSz, csC_no h h2]
theorem csSz_ok {k : Int} {ns : List Int} {ws : List (List Int)} (h : okP k ns ws = true) (h2 : csOk k ns ws = true) : csSz k ns ws = (((lefts ns ws).length : Int), ((rights ns ws).length : Int), ((ctxs ns ws).length : Int), 0) := by simp [csSz, csC_ok h h2]
abbrev q4V (r : Int × Int × Int × Int) : Value := .tuple #[.int .i64 r.1, .int .i64 r.2.1, .int .i64 r.2.2.1, .int .i64 r.2.2.2]
abbrev prfW (k : Int) (A1 : Option Addr) (n1 c1 : Nat) (A2 : Option Addr) (n2 c2 : Nat) : Value := .agg #[.int .i64 k, .slice A1 n1 c1, .slice A2 n2 c2]
end Go.Proofs.Ytcpkhhammafchaa
/- ContextSizes: the program's answer. -/
namespace Go.Proofs.Ytcpkhhammafchaa
open Go.RowKit
set_option linter.unusedVariables false
set_option linter.unusedSimpArgs false
theorem csOk_g1 {k : Int} {ns : List Int} {ws : List (List Int)} (h : g1 k ns = false) : csOk k ns ws = false := cs_g1 h
theorem csOk_g2 {k : Int} {ns : List Int} {ws : List (List Int)} (h : g2 ns ws.length = false) : csOk k ns ws = false := by simp [csOk, h]
theorem csOk_in {k : Int} {ns : List Int} {ws : List (List Int)} (h : g1 k ns = true) (h2 : g2 ns ws.length = true) : csOk k ns ws = (g3 ns ws && g4 ns ws) := by simp [csOk, h, h2]
/-- The parts of a valid proof. -/
theorem setsIn_any (w : World) (k : Int) (A1 : Option Addr) (n1 c1 : Nat) (ns : List Int) (hr1 : Rd w A1 n1 (ints ns)) (hn1 : n1 ≤ 1000000000) (hc1 : n1 ≤ c1) (A2 : Option Addr) (n2 c2 : Nat) (ws : List (List Int)) (hr2 : RdL w A2 n2 ws) (hc2 : n2 ≤ c2) (hok : okP k ns ws = true) :
    Calls Try.prog 81 #[prfV k A1 n1 c1 A2 n2 c2] w (CsPost w (pN ns) (lefts ns ws) (rights ns ws) (stated (ns.drop 3) (ctxs ns ws)) (csOk k ns ws)) := by
  cases hg : g1 k ns with
  | false =>
    rw [cs_g1 hg]
    exact setsIn_g1 w k A1 n1 c1 ns hr1 hn1 A2 n2 c2 _ _ _ _ hg
  | true =>
    cases h2 : g2 ns n2 with
    | false =>
      rw [csOk_g2 (by rw [hr2.len]; exact h2)]
      exact setsIn_g2 w k A1 n1 c1 ns hr1 hc1 A2 n2 c2 ws hr2.len _ _ _ _ hok hg h2
    | true =>
      rw [csOk_in hg (by rw [hr2.len]; exact h2)]
      exact setsIn_go w k A1 n1 c1 ns hr1 hc1 A2 n2 c2 ws hr2 hc2 hok hg h2
/-- The parts and a code. -/
def CfPost (w : World) (m : Int) (ls rs cs : List (List Int)) (code : Int) (e : Ending) (w' : World) : Prop :=
  ∃ (m' : Int) (A1 : Option Addr) (n1 c1 : Nat) (A2 : Option Addr) (n2 c2 : Nat) (A3 : Option Addr) (n3 c3 : Nat), e = .returned (.tuple #[csV m' A1 n1 c1 A2 n2 c2 A3 n3 c3, .int .i64 code]) ∧ Below w.heap.size w w' ∧
    (code = 0 → m' = m ∧ ∃ F1 F2 F3 : Nat → Prop, OwnP w' F1 A1 n1 c1 ls ∧ OwnP w' F2 A2 n2 c2 rs ∧ OwnP w' F3 A3 n3 c3 cs ∧ (∀ k, F1 k ∨ F2 k ∨ F3 k → w.heap.size ≤ k ∧ k < w'.heap.size) ∧ (∀ k, F1 k → F2 k → False) ∧ (∀ k, F1 k → F3 k → False) ∧ (∀ k, F2 k → F3 k → False))
end Go.Proofs.Ytcpkhhammafchaa
/- The contracts of the laws' own helpers on slices of slices whose rows may begin inside their blocks. Written by mk_lawk.py. -/
namespace Go.Proofs.Ytcpkhhammafchaa
open Go.RowKit
set_option linter.unusedVariables false
set_option linter.unusedSimpArgs false
theorem OwnA.get {w : World} {e n c g off j : Nat} {vs : List Value} {u : Value} (h : OwnA w e (some ⟨g, off, none⟩) n c vs) (hu : vs[j]? = some u) : w.cell? ⟨g, off + j, none⟩ = some u ∧ w.frozen? ⟨g, off + j, none⟩ = false ∧ g < w.heap.size := by
  rcases h.2 with ⟨h0, _⟩ | ⟨g', off', cur, h0, hg, hnc, hcs, hv⟩
  · cases h0
  · injection h0 with h0
    injection h0 with h1 h2
    subst h1 h2
    exact ⟨by rw [cell_of_row w g _ cur e (0, 0) hg]; exact hv j u hu, frozen_of_row w g _ cur e hg, blk_lt hg⟩
theorem OwnA.addr {w : World} {e n c : Nat} {A : Option Addr} {vs : List Value} (h : OwnA w e A n c vs) (hn : 0 < n) : ∃ g off, A = some ⟨g, off, none⟩ := by
  rcases h.2 with ⟨_, h0, _⟩ | ⟨g, off, cur, h0, _⟩
  · omega
  · exact ⟨g, off, h0⟩
theorem OwnA.put {w : World} {e n c g off : Nat} {vs : List Value} (h : OwnA w e (some ⟨g, off, none⟩) n c vs) (j : Nat) (hj : j < n) (u : Value) : OwnA (w.setCell ⟨g, off + j, none⟩ u) e (some ⟨g, off, none⟩) n c (vs.set j u) := by
  refine ⟨by simp [h.1], ?_⟩
  rcases h.2 with ⟨h0, _⟩ | ⟨g', off', cur, h0, hg, hnc, hcs, hv⟩
  · cases h0
  · injection h0 with h0
    injection h0 with h1 h2
    subst h1 h2
    refine .inr ⟨g, off, cur.setIfInBounds (off + j) u, rfl, heap_setCell_same w g _ cur e u hg, hnc, by simp; omega, fun i v hi => ?_⟩
    by_cases hij : i = j
    · subst hij
      rw [List.getElem?_set_self (by rw [h.1]; exact hj)] at hi
      injection hi with hi
      subst hi
      rw [Array.getElem?_setIfInBounds_self_of_lt (by omega)]
    · rw [List.getElem?_set_ne (fun e => hij e.symm)] at hi
      rw [Array.getElem?_setIfInBounds_ne (by omega)]
      exact hv i v hi
/-- 's[1:]'. -/
theorem OwnA.cut1 {w : World} {e n c : Nat} {A : Option Addr} {vs : List Value} (h : OwnA w e A n c vs) (hn : 1 ≤ n) : OwnA w e (cutA A 1 c 1) (n - 1) (c - 1) (vs.drop 1) := by
  refine ⟨by have := h.1; simp; omega, ?_⟩
  rcases h.2 with ⟨_, h0, _⟩ | ⟨g, off, cur, rfl, hg, hnc, hcs, hv⟩
  · omega
  · by_cases hc : c = 1
    · refine .inr ⟨g, off, cur, by simp [cutA, hc], hg, by omega, by omega, fun j u hu => ?_⟩
      have h1 := (List.getElem?_eq_some_iff.1 hu).1
      have h2 := h.1
      simp at h1; omega
    · refine .inr ⟨g, off + 1, cur, by simp only [cutA, if_neg hc, Option.map_some, Nat.mul_one, add_plain'], hg, by omega, by omega, fun j u hu => ?_⟩
      rw [show off + 1 + j = off + (1 + j) by omega]
      exact hv (1 + j) u (by rwa [List.getElem?_drop] at hu)
set_option maxHeartbeats 1000000 in
theorem markInt64S_anyA (w : World) (A : Option Addr) (n c : Nat) (xs : List Int) (ho : OwnA w 2 A n c (ints xs)) (hn : n ≤ 1099511627776) (k : Int) (hk0 : 0 ≤ k) (hk1 : k ≤ 1099511627776) :
    Calls Try.prog 63 #[.slice A n c, .int .i64 k] w fun e w' => e = .returned (.int .i64 (k + n)) ∧ OwnA w' 2 A n c (ints (up k n)) ∧ Ch (Fo (.slice A n c)) w w' := by
  have hlen : xs.length = n := by simpa using ho.1
  have HL := Lib.hid hlen; clear hlen
  go_enter Try.func63, Try.ntmps63
  go_wp2_with fail
  go_loopw [1, 5] (fun q i wr => ∃ j : Nat, j ≤ n ∧ i = .int .i64 j ∧ q = .int .i64 (k + j) ∧ OwnA wr 2 A n c (ints (up k j ++ xs.drop j)) ∧ Ch (Fo (.slice A n c)) w wr) (fun _ i _ => n - (intOf i).toNat)
  case atStart => exact ⟨0, Nat.zero_le _, rfl, by simp, by simpa [up] using ho, Ch.refl _ _⟩
  case round =>
    obtain ⟨j, hj, rfl, rfl, hown, hg⟩ := hrel
    clear ho
    by_cases hlt : j < n
    · obtain ⟨u, hu⟩ := mark_get k xs n j HL.out hlt
      obtain ⟨g, off, rfl⟩ := hown.addr (by omega)
      obtain ⟨hc2, hc3, hgs⟩ := hown.get hu
      have HS := Lib.hid (hown.put j hlt (.int .i64 (k + j)))
      have HG := Lib.hid (ch_setF (g := g) (i := off + j) (u := .int .i64 (k + j)) hg rfl)
      clear hu hown hg
      go_wp2_with fail
      go_roundw
      case rel => exact ⟨j + 1, by omega, by go_num, by go_num, by rw [← mark_step k xs n j HL.out hlt]; exact HS.out, HG.out⟩
      case measure => simp [intOf]; omega
    · go_wp2_with fail
      go_ret
      obtain rfl : j = n := by omega
      refine ⟨rfl, ?_, hg⟩
      simpa [List.drop_of_length_le (Nat.le_of_eq HL.out)] using hown
/-- Rows of the call's own, each in a block of its own, that read as lists. -/
def InnerK (w : World) (F : Nat → Prop) (us : List Value) (xss : List (List Int)) : Prop :=
  us.length = xss.length ∧ (∀ (i : Nat) (u : Value) (xs : List Int), us[i]? = some u → xss[i]? = some xs → ∃ A n c, u = .slice A n c ∧ n ≤ 1000000000 ∧ OwnA w 2 A n c (ints xs) ∧ ∀ k, Fo u k → F k) ∧
    ∀ (i j : Nat) (u v : Value), us[i]? = some u → us[j]? = some v → ∀ k, Fo u k → Fo v k → i = j
theorem InnerK.nil (w : World) (F : Nat → Prop) : InnerK w F [] [] := ⟨rfl, by simp, by simp⟩
theorem InnerK.ch {w w' : World} {F G : Nat → Prop} {us : List Value} {xss : List (List Int)} (h : InnerK w F us xss) (hc : Ch G w w') (hd : ∀ k, F k → G k → False) : InnerK w' F us xss := by
  obtain ⟨h1, h2, h3⟩ := h
  refine ⟨h1, fun i u xs hu hx => ?_, h3⟩
  obtain ⟨A, n, c, rfl, hn, ho, hb⟩ := h2 i u xs hu hx
  exact ⟨A, n, c, rfl, hn, ho.ch hc (fun k h1 h2 => hd k (hb k h1) h2), hb⟩
theorem InnerK.mono {w : World} {F G : Nat → Prop} {us : List Value} {xss : List (List Int)} (h : InnerK w F us xss) (hd : ∀ k, F k → G k) : InnerK w G us xss := by
  obtain ⟨h1, h2, h3⟩ := h
  refine ⟨h1, fun i u xs hu hx => ?_, h3⟩
  obtain ⟨A, n, c, rfl, hn, ho, hb⟩ := h2 i u xs hu hx
  exact ⟨A, n, c, rfl, hn, ho, fun k hk => hd k (hb k hk)⟩
theorem InnerK.snoc {w : World} {F G : Nat → Prop} {n c : Nat} {us : List Value} {xss : List (List Int)} {A : Option Addr} {xs : List Int} (h : InnerK w F us xss) (ho : OwnA w 2 A n c (ints xs)) (hn : n ≤ 1000000000) (hd : ∀ k, F k → Fo (.slice A n c) k → False) (hF : ∀ k, F k → G k) (hG : ∀ k, Fo (.slice A n c) k → G k) : InnerK w G (us ++ [.slice A n c]) (xss ++ [xs]) := by
  obtain ⟨h1, h2, h3⟩ := h
  have hold : ∀ (i : Nat) (u : Value), i < us.length → (us ++ [Value.slice A n c])[i]? = some u → us[i]? = some u := by
    intro i u hi' hu
    rwa [List.getElem?_append_left hi'] at hu
  have hnew : ∀ (i : Nat) (u : Value), ¬ i < us.length → (us ++ [Value.slice A n c])[i]? = some u → i = us.length ∧ u = .slice A n c := by
    intro i u hi' hu
    rw [List.getElem?_append_right (by omega)] at hu
    have hi0 : i - us.length = 0 := by
      rcases Nat.eq_zero_or_pos (i - us.length) with h | h
      · exact h
      · rw [List.getElem?_eq_none (by simp; omega)] at hu; cases hu
    rw [hi0] at hu
    simp at hu
    exact ⟨by omega, hu.symm⟩
  have hF1 : ∀ (i : Nat) (u : Value), us[i]? = some u → ∀ k, Fo u k → F k := by
    intro i u hu k hk
    obtain ⟨ys, hy⟩ := get_some (xs := xss) (k := i) (by rw [← h1]; exact (List.getElem?_eq_some_iff.1 hu).1)
    obtain ⟨_, _, _, rfl, _, _, hb'⟩ := h2 i u ys hu hy
    exact hb' k hk
  refine ⟨by simp [h1], fun i u ys hu hx => ?_, fun i j u v hu hv k hk hk' => ?_⟩
  · by_cases hi : i < us.length
    · rw [List.getElem?_append_left (by omega)] at hx
      obtain ⟨A', n', c', rfl, hn', ho', hb'⟩ := h2 i u ys (hold i u hi hu) hx
      exact ⟨A', n', c', rfl, hn', ho', fun k hk => hF k (hb' k hk)⟩
    · obtain ⟨hi', rfl⟩ := hnew i u hi hu
      rw [List.getElem?_append_right (by omega), show i - xss.length = 0 by omega] at hx
      simp at hx
      subst hx
      exact ⟨A, n, c, rfl, hn, ho, hG⟩
  · by_cases hi' : i < us.length <;> by_cases hj' : j < us.length
    · exact h3 i j u v (hold i u hi' hu) (hold j v hj' hv) k hk hk'
    · obtain ⟨_, rfl⟩ := hnew j v hj' hv
      exact (hd k (hF1 i u (hold i u hi' hu) k hk) hk').elim
    · obtain ⟨_, rfl⟩ := hnew i u hi' hu
      exact (hd k (hF1 j v (hold j v hj' hv) k hk') hk).elim
    · have := (hnew i u hi' hu).1
      have := (hnew j v hj' hv).1
      omega
theorem InnerK.rdl {w : World} {F : Nat → Prop} {n : Nat} {A : Option Addr} {us : List Value} {xss : List (List Int)} (h : InnerK w F us xss) (hr : Rd w A n us) : RdL w A n xss := by
  refine ⟨us, hr, h.1, fun i v xs hv hx => ?_⟩
  obtain ⟨A', n', c', rfl, hn', ho', _⟩ := h.2.1 i v xs hv hx
  exact ⟨A', n', c', rfl, hn', ho'.rd⟩
theorem InnerK.mark {w w' : World} {F : Nat → Prop} {i n c : Nat} {us : List Value} {xss : List (List Int)} {A : Option Addr} {ys : List Int} (h : InnerK w F us xss) (hu : us[i]? = some (.slice A n c)) (hn : n ≤ 1000000000) (hk : ∀ k, Fo (.slice A n c) k → F k) (ho : OwnA w' 2 A n c (ints ys)) (hg : Ch (Fo (.slice A n c)) w w') : InnerK w' F us (xss.set i ys) := by
  obtain ⟨h1, h2, h3⟩ := h
  refine ⟨by simp [h1], fun j u xs hj hx => ?_, h3⟩
  by_cases hij : i = j
  · subst hij
    rw [hu] at hj
    injection hj with hj
    subst hj
    rw [List.getElem?_set_self (by have := (List.getElem?_eq_some_iff.1 hu).1; omega)] at hx
    injection hx with hx
    subst hx
    exact ⟨A, n, c, rfl, hn, ho, hk⟩
  · rw [List.getElem?_set_ne hij] at hx
    obtain ⟨A', n', c', rfl, hn', ho', hb'⟩ := h2 j u xs hj hx
    exact ⟨A', n', c', rfl, hn', ho'.ch hg (fun k a b => hij (h3 i j _ _ hu hj k b a)), hb'⟩

/-- A slice of slices of the call's own: all its blocks are of F. -/
def OwnK (w : World) (F : Nat → Prop) (A : Option Addr) (n c : Nat) (xss : List (List Int)) : Prop :=
  ∃ us, w.ownsRow 0 25 1 (.slice A n c) n us ∧ (∀ k, Fo (.slice A n c) k → F k) ∧ InnerK w F us xss ∧ ∀ k, F k → k < w.heap.size
section
variable {w w' : World} {F G : Nat → Prop} {n c : Nat} {A : Option Addr} {xss : List (List Int)}
theorem OwnK.rdl (h : OwnK w F A n c xss) : RdL w A n xss := by obtain ⟨us, h1, _, h3, _⟩ := h; exact h3.rdl (own_rd h1)
theorem OwnK.len (h : OwnK w F A n c xss) : xss.length = n := h.rdl.len
theorem OwnK.lt (h : OwnK w F A n c xss) : ∀ k, F k → k < w.heap.size := by obtain ⟨us, _, _, _, h4⟩ := h; exact h4
theorem OwnK.ch (h : OwnK w F A n c xss) (hc : Ch G w w') (hd : ∀ k, F k → G k → False) : OwnK w' F A n c xss := by
  obtain ⟨us, h1, h2, h3, h4⟩ := h
  exact ⟨us, own_ch h1 hc (fun k a b => hd k (h2 k a) b), h2, h3.ch hc hd, fun k hk => Nat.lt_of_lt_of_le (h4 k hk) hc.size⟩
theorem OwnK.below (h : OwnK w F A n c xss) (hb : Below w.heap.size w w') : OwnK w' F A n c xss := h.ch (ch_below (F := fun _ => False) hb) (fun _ _ h => h)
theorem OwnK.cap (h : OwnK w F A n c xss) : n ≤ c := by obtain ⟨us, h1, _⟩ := h; exact ownN_cap h1
theorem OwnK.nil (w : World) : OwnK w (fun _ => False) none 0 0 [] := ⟨[], ownN_nil _ _ _ _, by simp [Fo, Value.ownBlock], InnerK.nil _ _, by simp⟩
end
theorem fo_types {w : World} {base n m c : Nat} {v : Value} {A : Option Addr} {us vs : List Value} (h1 : w.ownsRow base 25 1 v n us) (h2 : OwnA w 2 A m c vs) (q : Nat) (a : Fo v q) (b : Fo (.slice A m c) q) : False := by
  rcases h2.2 with ⟨rfl, _⟩ | ⟨g, off, cur, rfl, hg, _⟩
  · simp [Fo, Value.ownBlock] at b
  · obtain rfl : g = q := by simpa [Fo, Value.ownBlock] using b
    rcases h1.2 with ⟨rfl, _⟩ | ⟨g', _, cs, rfl, _, hg', _⟩
    · simp [Fo, Value.ownBlock] at a
    · obtain rfl : g' = g := by simpa [Fo, Value.ownBlock] using a
      exact blk_ne hg' hg (by decide) rfl
set_option maxHeartbeats 1000000 in
theorem markInt64SS_anyK (w : World) (F : Nat → Prop) (A : Option Addr) (n c : Nat) (xss : List (List Int)) (ho : OwnK w F A n c xss) (hn : n ≤ 1000000000) (ht : tot xss ≤ 1000000000) (k : Int) (hk0 : 0 ≤ k) (hk1 : k ≤ 1000000000) :
    Calls Try.prog 64 #[.slice A n c, .int .i64 k] w fun e w' => e = .returned (.int .i64 (k + tot xss)) ∧ OwnK w' F A n c (ups k xss) ∧ Ch F w w' := by
  have HL : Hid (xss.length = n) := Lib.hid ho.len
  go_enter Try.func64, Try.ntmps64
  go_wp2_with fail
  go_loopw [1, 5] (fun q i wr => ∃ j : Nat, j ≤ n ∧ i = .int .i64 j ∧ q = .int .i64 (k + tot (xss.take j)) ∧ OwnK wr F A n c (ups k (xss.take j) ++ xss.drop j) ∧ Ch F w wr) (fun _ i _ => n - (intOf i).toNat)
  case atStart => exact ⟨0, Nat.zero_le _, rfl, by simp [tot], by simpa [ups] using ho, Ch.refl _ _⟩
  case round =>
    obtain ⟨j, hj, rfl, rfl, hown, hO⟩ := hrel
    clear ho
    have htj : tot (xss.take j) ≤ 1000000000 := Nat.le_trans (tot_take_le xss j) ht
    by_cases hlt : j < n
    · obtain ⟨xs, hx⟩ := get_some (xs := xss) (k := j) (by rw [HL.out]; exact hlt)
      obtain ⟨us, h1, h2, h3, h4⟩ := hown
      obtain ⟨u, hu⟩ := get_some (xs := us) (k := j) (by have := h1.1; simp at this; omega)
      obtain ⟨A', n', c', rfl, hn', ho', hb'⟩ := h3.2.1 j u xs hu (mk_get hx)
      obtain ⟨b, off, rfl, hbs, hc⟩ := (own_rd h1).at_ hu
      have hn'x : xs.length = n' := by simpa using ho'.1
      have HX := Lib.hid hx; have HU := Lib.hid hu; have H1 := Lib.hid h1; have H2 := Lib.hid h2; have H3 := Lib.hid h3; have H4 := Lib.hid h4; have HO' := Lib.hid ho'; have HB' := Lib.hid hb'; have HNX := Lib.hid hn'x
      have HTS := Lib.hid (tot_take_succ hx)
      clear hx hu h1 h2 h3 h4 ho' hb' hn'x
      go_wp2_with fail
      refine (markInt64S_anyA _ _ _ _ xs HO'.out (by omega) _ (by omega) (by omega)).mono ?_
      rintro e w2 ⟨rfl, hm2, hg2⟩
      have HI2 := Lib.hid (H3.out.mark HU.out hn' HB'.out hm2 hg2)
      have HO2 := Lib.hid (own_ch H1.out hg2 (fun q a b => fo_types H1.out HO'.out q a b))
      have HT2 := Lib.hid (hO.trans (hg2.mono HB'.out))
      have HEQ : Hid (k + (tot (xss.take j) : Int) + (n' : Int) = k + (tot (xss.take (j + 1)) : Int)) := Lib.hid (by have h1 := HTS.out; have h2 := HNX.out; omega)
      have HG2 := Lib.hid hg2.size
      clear hm2 hg2
      go_wp2_with fail
      go_roundw
      case rel =>
        refine ⟨j + 1, by omega, by go_num, by rw [HEQ.out], ⟨us, HO2.out, H2.out, ?_, fun k hk => Nat.lt_of_lt_of_le (H4.out k hk) HG2.out⟩, HT2.out⟩
        have h := HI2.out
        rw [← HNX.out, mk_set HX.out] at h
        exact h
      case measure => simp [intOf]; omega
    · go_wp2_with fail
      go_ret
      have e1 : xss.take j = xss := List.take_of_length_le (by rw [HL.out]; omega)
      have e2 : xss.drop j = [] := List.drop_of_length_le (by rw [HL.out]; omega)
      rw [e1, e2, List.append_nil] at hown
      exact ⟨by rw [e1]; rfl, hown, hO⟩

end Go.Proofs.Ytcpkhhammafchaa
/- ContextsIn: the reference's answer. -/
namespace Go.Proofs.Ytcpkhhammafchaa
open Go.RowKit
set_option linter.unusedVariables false
set_option linter.unusedSimpArgs false
theorem OwnP.k {w : World} {F : Nat → Prop} {n c : Nat} {A : Option Addr} {xss : List (List Int)} (h : OwnP w F A n c xss) : OwnK w F A n c xss := by
  obtain ⟨us, h1, h2, ⟨h3, h4, h5⟩, h6⟩ := h
  refine ⟨us, h1, h2, ⟨h3, fun i u xs hu hx => ?_, h5⟩, h6⟩
  obtain ⟨A', n', c', rfl, hn, ho, hb⟩ := h4 i u xs hu hx
  exact ⟨A', n', c', rfl, hn, ownA_of ho, hb⟩
/-- What ContextsIn answers. -/
def ciR (k : Int) (ns : List Int) (ws : List (List Int)) : List (List Int) × List (List Int) × List (List Int) × List Int × Int := if csC k ns ws = 0 then (lefts ns ws, rights ns ws, ctxs ns ws, ns.drop 3, 0) else ([], [], [], [], csC k ns ws)
theorem ciR_bad {k : Int} {ns : List Int} {ws : List (List Int)} (h : okP k ns ws = false) : ciR k ns ws = ([], [], [], [], 1) := by simp [ciR, csC_bad h]
theorem ciR_no {k : Int} {ns : List Int} {ws : List (List Int)} (h : okP k ns ws = true) (h2 : csOk k ns ws = false) : ciR k ns ws = ([], [], [], [], 2) := by simp [ciR, csC_no h h2]
theorem ciR_ok {k : Int} {ns : List Int} {ws : List (List Int)} (h : okP k ns ws = true) (h2 : csOk k ns ws = true) : ciR k ns ws = (lefts ns ws, rights ns ws, ctxs ns ws, ns.drop 3, 0) := by simp [ciR, csC_ok h h2]
def CiP (w : World) (r : List (List Int) × List (List Int) × List (List Int) × List Int × Int) (e : Ending) (w' : World) : Prop :=
  ∃ (A0 : Option Addr) (n0 c0 : Nat) (F0 : Nat → Prop) (A1 : Option Addr) (n1 c1 : Nat) (F1 : Nat → Prop) (A2 : Option Addr) (n2 c2 : Nat) (F2 : Nat → Prop) (A3 : Option Addr) (n3 c3 : Nat), e = .returned (.tuple #[.slice A0 n0 c0, .slice A1 n1 c1, .slice A2 n2 c2, .slice A3 n3 c3, .int .i64 r.2.2.2.2]) ∧
    OwnP w' F0 A0 n0 c0 r.1 ∧ (∀ k, F0 k → w.heap.size ≤ k ∧ k < w'.heap.size) ∧ OwnP w' F1 A1 n1 c1 r.2.1 ∧ (∀ k, F1 k → w.heap.size ≤ k ∧ k < w'.heap.size) ∧ OwnK w' F2 A2 n2 c2 r.2.2.1 ∧ (∀ k, F2 k → w.heap.size ≤ k ∧ k < w'.heap.size) ∧ w'.ownsRow w.heap.size 2 1 (.slice A3 n3 c3) n3 (ints r.2.2.2.1) ∧
    (∀ k, F0 k → F1 k → False) ∧ (∀ k, F0 k → F2 k → False) ∧ (∀ k, F0 k → Fo (.slice A3 n3 c3) k → False) ∧ (∀ k, F1 k → F2 k → False) ∧ (∀ k, F1 k → Fo (.slice A3 n3 c3) k → False) ∧ (∀ k, F2 k → Fo (.slice A3 n3 c3) k → False) ∧ Below w.heap.size w w'
theorem ciP_nil {w w' : World} {z : Int} (hb : Below w.heap.size w w') : CiP w ([], [], [], [], z) (.returned (.tuple #[.slice none 0 0, .slice none 0 0, .slice none 0 0, .slice none 0 0, .int .i64 z])) w' :=
  ⟨none, 0, 0, fun _ => False, none, 0, 0, fun _ => False, none, 0, 0, fun _ => False, none, 0, 0, rfl, OwnP.nil _, by simp, OwnP.nil _, by simp, (OwnP.nil _).k, by simp, own_nil _ _ _, by simp, by simp, by simp, by simp, by simp, by simp, hb⟩
end Go.Proofs.Ytcpkhhammafchaa
/- ContextsIn: the rows without their heads; append at a step of a region that draws. -/
namespace Go.Proofs.Ytcpkhhammafchaa
open Go.RowKit
set_option linter.unusedVariables false
set_option linter.unusedSimpArgs false
/-- The value of 'w[1:]'. -/
def tailV : Value → Value
  | .slice A n c => .slice (cutA A 1 c 1) (n - 1) (c - 1)
  | v => v
theorem add_block (a : Addr) (k : Nat) : (a.add k).block = a.block := by
  unfold Addr.add
  split <;> rfl
theorem fo_cut {A : Option Addr} {n c k n' m q : Nat} (h : Fo (.slice (cutA A k c 1) n' m) q) : Fo (.slice A n c) q := by
  cases A with
  | none => simp [cutA, Fo, Value.ownBlock] at h
  | some a =>
    by_cases hc : c = k
    · simpa [cutA, Fo, Value.ownBlock, hc] using h
    · simpa [cutA, Fo, Value.ownBlock, hc, add_block] using h
theorem inner_tail {w : World} {F : Nat → Prop} {us : List Value} {xss : List (List Int)} (h : InnerP w F us xss) (h1 : ∀ xs ∈ xss, 1 ≤ xs.length) : InnerK w F (us.map tailV) (xss.map (·.drop 1)) := by
  obtain ⟨a, b, c⟩ := h
  refine ⟨by simp [a], fun i u xs hu hx => ?_, fun i j u v hu hv k hk hk' => ?_⟩
  · rw [List.getElem?_map] at hu hx
    obtain ⟨u0, hu0⟩ := get_some (xs := us) (k := i) (by rcases Nat.lt_or_ge i us.length with h2 | h2; exact h2; rw [List.getElem?_eq_none h2] at hu; cases hu)
    obtain ⟨x0, hx0⟩ := get_some (xs := xss) (k := i) (by rw [← a]; exact (List.getElem?_eq_some_iff.1 hu0).1)
    rw [hu0] at hu; rw [hx0] at hx
    simp at hu hx
    subst hu hx
    obtain ⟨A, n, c', rfl, hn, ho, hb⟩ := b i u0 x0 hu0 hx0
    have hl : x0.length = n := by simpa using ho.1
    have hn1 : 1 ≤ n := by have := h1 x0 (List.mem_of_getElem? hx0); omega
    have hk := (ownA_of ho).cut1 hn1
    rw [← List.map_drop] at hk
    exact ⟨cutA A 1 c' 1, n - 1, c' - 1, rfl, by omega, by simpa using hk, fun k hk => hb k (fo_cut (n := n) hk)⟩
  · rw [List.getElem?_map] at hu hv
    obtain ⟨u0, hu0⟩ := get_some (xs := us) (k := i) (by rcases Nat.lt_or_ge i us.length with h2 | h2; exact h2; rw [List.getElem?_eq_none h2] at hu; cases hu)
    obtain ⟨v0, hv0⟩ := get_some (xs := us) (k := j) (by rcases Nat.lt_or_ge j us.length with h2 | h2; exact h2; rw [List.getElem?_eq_none h2] at hv; cases hv)
    rw [hu0] at hu; rw [hv0] at hv
    simp at hu hv
    subst hu hv
    obtain ⟨x0, hx0⟩ := get_some (xs := xss) (k := i) (by rw [← a]; exact (List.getElem?_eq_some_iff.1 hu0).1)
    obtain ⟨y0, hy0⟩ := get_some (xs := xss) (k := j) (by rw [← a]; exact (List.getElem?_eq_some_iff.1 hv0).1)
    obtain ⟨A, n, c', rfl, _⟩ := b i u0 x0 hu0 hx0
    obtain ⟨B, m, d', rfl, _⟩ := b j v0 y0 hv0 hy0
    exact c i j _ _ hu0 hv0 k (fo_cut (n := n) (n' := n - 1) (m := c' - 1) (k := 1) hk) (fo_cut (n := m) (n' := m - 1) (m := d' - 1) (k := 1) hk')
theorem stated_tails {sts : List Int} {cs : List (List Int)} (h : sts.length = cs.length) : (stated sts cs).map (·.drop 1) = cs := by
  unfold stated
  induction cs generalizing sts with
  | nil => simp
  | cons c r ih =>
    cases sts with
    | nil => simp at h
    | cons s t => simp only [List.zipWith_cons_cons, List.map_cons, List.drop_succ_cons, List.drop_zero]; rw [ih (by simpa using h)]
theorem stated_heads {sts : List Int} {cs : List (List Int)} (h : sts.length = cs.length) : (stated sts cs).map (fun w => w.getD 0 0) = sts := by
  unfold stated
  induction cs generalizing sts with
  | nil => simp at h; simp [h]
  | cons c r ih =>
    cases sts with
    | nil => simp at h
    | cons s t => simp only [List.zipWith_cons_cons, List.map_cons]; rw [ih (by simpa using h)]; simp
/-- 'append(s, src...)' at a step of a region that draws its order, by footprint. -/
theorem step_appO {P : Program} {ops : Array Oper} {o : Oper} {a : Act} {K : Act → World → Prop} {Q : Exit → Act → World → Prop} {E : Prop} {t e : TypeId} {z : Value} (hE : Elt P t e z) (hgd : o.guard = none) (s x : Operand)
    (ho : o.op = .call { callee := .builtin .append, args := #[s, x], argTypes := #[t, t] }) (W : World) (base : Nat) (A A0 : Option Addr) (n c m c0 : Nat) (vs us : List Value) (hs : a.eval s = .slice A n c) (hown : W.ownsRow base e 1 (.slice A n c) n vs)
    (hx : a.eval x = .slice A0 m c0) (hr : Rd W A0 m us) (hu : ∀ u ∈ us, u.oneCell' = true) (hm : 0 < m) (hn : n + m ≤ 1099511627776)
    (h : ∀ A' c' w', w'.ownsRow 0 e 1 (.slice A' (n + m) c') (n + m) (vs ++ us) → Ch (Fo (.slice A n c)) W w' → (∀ k, Fo (.slice A' (n + m) c') k → Fo (.slice A n c) k ∨ W.heap.size ≤ k) → K (a.put o.dst (.slice A' (n + m) c')) w') :
    if Region.wanted o (yielded ops a.tmps) = true then Oper.wp P o a W K Q else E := by
  obtain ⟨A', c', w', hrun, k1, k2, k3⟩ := run_appO (ty := o.type) (c0 := c0) hE hown hr hu hm hn
  have hw : Region.wanted o (yielded ops a.tmps) = true := by simp [Region.wanted, hgd]
  rw [if_pos hw]
  unfold Oper.wp
  simp [execOp, ho, resolve, invoke, builtin, hs, hx, hrun, Result.andThen]
  exact h A' c' w' k1 k2 k3
end Go.Proofs.Ytcpkhhammafchaa
/- A proof that is being built: its box, its numbers and its words. -/
namespace Go.Proofs.Ytcpkhhammafchaa
open Go.RowKit
set_option linter.unusedVariables false
set_option linter.unusedSimpArgs false
/-- 'append(s, src...)', by footprint, be there something to append or not. -/
theorem run_appOz {P : Program} {t ty e : TypeId} {z : Value} (hE : Elt P t e z) {w : World} {base : Nat} {A A0 : Option Addr} {n c m c0 : Nat} {vs us : List Value} (hown : w.ownsRow base e 1 (.slice A n c) n vs) (hr : Rd w A0 m us) (hu : ∀ u ∈ us, u.oneCell' = true) (hn : n + m ≤ 1099511627776) :
    ∃ A' c' w', (Builtin.append_ #[t, t] ty #[.slice A n c, .slice A0 m c0]).run P w = .ok (.slice A' (n + m) c') w' ∧ w'.ownsRow 0 e 1 (.slice A' (n + m) c') (n + m) (vs ++ us) ∧ Ch (Fo (.slice A n c)) w w' ∧ (∀ k, Fo (.slice A' (n + m) c') k → Fo (.slice A n c) k ∨ w.heap.size ≤ k) := by
  rcases Nat.eq_zero_or_pos m with hm | hm
  · subst hm
    have hus : us = [] := List.eq_nil_of_length_eq_zero (by simpa using hr.1)
    subst hus
    have hcap := ownN_cap hown
    obtain ⟨ht, hzc, i, hi, hz, hs1, hb⟩ := hE
    refine ⟨A, c, w, ?_, by simpa using ownN_base hown (Nat.zero_le _), Ch.refl _ _, fun k hk => .inl hk⟩
    cases A <;> cases A0 <;> simp [Builtin.append_, run_underlying ht, sizeOf, typeInfo, hi, Builtin.lenOf, Builtin.firstCells, loadCells, loadCellsFrom, hcap, storeCells]
  · exact run_appO hE hown hr hu hm hn
/-- The same at a step of a region that draws its order. -/
theorem step_appOz {P : Program} {ops : Array Oper} {o : Oper} {a : Act} {K : Act → World → Prop} {Q : Exit → Act → World → Prop} {E : Prop} {t e : TypeId} {z : Value} (hE : Elt P t e z) (hgd : o.guard = none) (s x : Operand)
    (ho : o.op = .call { callee := .builtin .append, args := #[s, x], argTypes := #[t, t] }) (W : World) (base : Nat) (A A0 : Option Addr) (n c m c0 : Nat) (vs us : List Value) (hs : a.eval s = .slice A n c) (hown : W.ownsRow base e 1 (.slice A n c) n vs)
    (hx : a.eval x = .slice A0 m c0) (hr : Rd W A0 m us) (hu : ∀ u ∈ us, u.oneCell' = true) (hn : n + m ≤ 1099511627776)
    (h : ∀ A' c' w', w'.ownsRow 0 e 1 (.slice A' (n + m) c') (n + m) (vs ++ us) → Ch (Fo (.slice A n c)) W w' → (∀ k, Fo (.slice A' (n + m) c') k → Fo (.slice A n c) k ∨ W.heap.size ≤ k) → K (a.put o.dst (.slice A' (n + m) c')) w') :
    if Region.wanted o (yielded ops a.tmps) = true then Oper.wp P o a W K Q else E := by
  obtain ⟨A', c', w', hrun, k1, k2, k3⟩ := run_appOz (ty := o.type) (c0 := c0) hE hown hr hu hn
  have hw : Region.wanted o (yielded ops a.tmps) = true := by simp [Region.wanted, hgd]
  rw [if_pos hw]
  unfold Oper.wp
  simp [execOp, ho, resolve, invoke, builtin, hs, hx, hrun, Result.andThen]
  exact h A' c' w' k1 k2 k3
/-- A proof that is being built, above w0's end. -/
structure PB (w0 w : World) (g : Nat) (A : Option Addr) (n c : Nat) (ns : List Int) (B : Option Addr) (m d : Nat) (us : List Value) (ws : List (List Int)) : Prop where
  box : w.heap[g]? = some (.cells #[.int .i64 8, .slice A n c, .slice B m d] 48 (0, 0))
  nums : w.ownsRow 0 2 1 (.slice A n c) n (ints ns)
  rows : OwnX w B m d us ws
  glo : w0.heap.size ≤ g
  nlo : ∀ q, Fo (.slice A n c) q → w0.heap.size ≤ q
  wlo : ∀ q, FX B m d us q → w0.heap.size ≤ q
  dis : ∀ q, Fo (.slice A n c) q → FX B m d us q → False
  lo : Below w0.heap.size w0 w
section
variable {w0 w w2 w4 w' : World} {g n c m d n' c' n2 c2 c4 : Nat} {A A' B A2 A4 : Option Addr} {ns ks : List Int} {us : List Value} {ws : List (List Int)} {xs : List Int}
theorem PB.ng (h : PB w0 w g A n c ns B m d us ws) : ¬ Fo (.slice A n c) g := fun hk => by obtain ⟨cs, hc⟩ := own_fo h.nums hk; exact blk_ne h.box hc (by decide) rfl
theorem PB.wg (h : PB w0 w g A n c ns B m d us ws) : ¬ FX B m d us g := fun hk => by
  rcases hk with hk | hk
  · obtain ⟨cs, hc⟩ := own_fo h.rows.1 hk; exact blk_ne h.box hc (by decide) rfl
  · obtain ⟨cs, hc⟩ := inner_fo h.rows.2 hk; exact blk_ne h.box hc (by decide) rfl
theorem PB.ch (h : PB w0 w g A n c ns B m d us ws) (hc : Ch (fun _ => False) w w') : PB w0 w' g A n c ns B m d us ws :=
  ⟨blk_ch h.box hc (fun h => h), own_ch h.nums hc (fun _ _ h => h), h.rows.ch hc (fun _ _ h => h), h.glo, h.nlo, h.wlo, h.dis, below_ch h.lo hc (fun _ h => h.elim) h.lo.size⟩
theorem PB.below (h : PB w0 w g A n c ns B m d us ws) (hb : Below w.heap.size w w') : PB w0 w' g A n c ns B m d us ws := h.ch (ch_below hb)
theorem PB.alloc (h : PB w0 w g A n c ns B m d us ws) {o : Obj} : PB w0 (w.alloc o) g A n c ns B m d us ws := h.ch (ch_alloc _ _ _)
theorem PB.drew (h : PB w0 w g A n c ns B m d us ws) : PB w0 w.drew g A n c ns B m d us ws := h.ch (ch_drew (Ch.refl _ _))
theorem PB.y1 (h : PB w0 w g A n c ns B m d us ws) : w.cell? ⟨g, 1, none⟩ = some (.slice A n c) := blk_cell h.box 1 rfl
theorem PB.y2 (h : PB w0 w g A n c ns B m d us ws) : w.cell? ⟨g, 2, none⟩ = some (.slice B m d) := blk_cell h.box 2 rfl
theorem PB.lt (h : PB w0 w g A n c ns B m d us ws) : g < w.heap.size := blk_lt h.box
/-- The numbers have grown: the box behind the append. -/
theorem PB.boxN (h : PB w0 w g A n c ns B m d us ws) (hc : Ch (Fo (.slice A n c)) w w') : w'.heap[g]? = some (.cells #[.int .i64 8, .slice A n c, .slice B m d] 48 (0, 0)) := blk_ch h.box hc h.ng
theorem PB.addN (h : PB w0 w g A n c ns B m d us ws) (ho : w'.ownsRow 0 2 1 (.slice A' n' c') n' (ints (ns ++ ks))) (hc : Ch (Fo (.slice A n c)) w w') (hf : ∀ q, Fo (.slice A' n' c') q → Fo (.slice A n c) q ∨ w.heap.size ≤ q) : PB w0 (w'.setCell ⟨g, 1, none⟩ (.slice A' n' c')) g A' n' c' (ns ++ ks) B m d us ws := by
  have hb := h.boxN hc
  have hs := ch_set w' g 1 (.slice A' n' c')
  have hn : ¬ Fo (.slice A' n' c') g := fun hk => by obtain ⟨cs, hc'⟩ := own_fo ho hk; exact blk_ne hb hc' (by decide) rfl
  have hr : OwnX w' B m d us ws := h.rows.ch hc (fun k h1 h2 => h.dis k h2 h1)
  have hg : w0.heap.size ≤ w'.heap.size := Nat.le_trans h.lo.size hc.size
  refine ⟨by simpa using blk_set hb 1 (.slice A' n' c'), own_ch ho hs (fun k h1 h2 => hn (by rw [← h2]; exact h1)), hr.ch hs (fun k h1 h2 => h.wg (by rw [← h2]; exact h1)), h.glo, fun q hq => ?_, h.wlo, fun q h1 h2 => ?_, below_ch (below_ch h.lo hc h.nlo h.lo.size) hs (fun k hk => by have e : k = g := hk; rw [e]; exact h.glo) hg⟩
  · rcases hf q hq with h1 | h1
    · exact h.nlo q h1
    · exact Nat.le_trans h.lo.size h1
  · rcases hf q h1 with h3 | h3
    · exact h.dis q h3 h2
    · exact absurd (h.rows.lt h2) (Nat.not_lt.2 h3)
/-- The words have grown: the box behind the append. -/
theorem PB.boxW (h : PB w0 w g A n c ns B m d us ws) (hb : Below w.heap.size w w2) (hc : Ch (Fo (.slice B m d)) w2 w4) : w4.heap[g]? = some (.cells #[.int .i64 8, .slice A n c, .slice B m d] 48 (0, 0)) := blk_ch (blk_bel h.box hb) hc (fun hk => h.wg (.inl hk))
theorem PB.addW (h : PB w0 w g A n c ns B m d us ws) (hb : Below w.heap.size w w2) (ho : w2.ownsRow w.heap.size 2 1 (.slice A2 n2 c2) n2 (ints xs)) (hn : n2 ≤ 1000000000)
    (ho4 : w4.ownsRow 0 25 1 (.slice A4 (m + 1) c4) (m + 1) (us ++ [.slice A2 n2 c2])) (hc4 : Ch (Fo (.slice B m d)) w2 w4) (hf : ∀ q, Fo (.slice A4 (m + 1) c4) q → Fo (.slice B m d) q ∨ w2.heap.size ≤ q) : PB w0 (w4.setCell ⟨g, 2, none⟩ (.slice A4 (m + 1) c4)) g A n c ns A4 (m + 1) c4 (us ++ [.slice A2 n2 c2]) (ws ++ [xs]) := by
  have hbx := h.boxW hb hc4
  obtain ⟨hx, hfx⟩ := h.rows.step hb ho hn ho4 hc4 hf
  have hs := ch_set w4 g 2 (.slice A4 (m + 1) c4)
  have hng : ¬ FX A4 (m + 1) c4 (us ++ [.slice A2 n2 c2]) g := fun hk => by
    rcases hfx g hk with h1 | h1
    · exact h.wg h1
    · exact absurd h.lt (Nat.not_lt.2 h1)
  have hnum : w4.ownsRow 0 2 1 (.slice A n c) n (ints ns) := own_ch (ownN_below h.nums hb (Nat.le_refl _)) hc4 (fun k h1 h2 => h.dis k h1 (.inl h2))
  have hlo2 : Below w0.heap.size w0 w2 := h.lo.trans (hb.mono h.lo.size)
  have hlo4 : Below w0.heap.size w0 w4 := below_ch hlo2 hc4 (fun k hk => h.wlo k (.inl hk)) hlo2.size
  refine ⟨by simpa using blk_set hbx 2 (.slice A4 (m + 1) c4), own_ch hnum hs (fun k h1 h2 => h.ng (by rw [← h2]; exact h1)), hx.ch hs (fun k h1 h2 => hng (by rw [← h2]; exact h1)), h.glo, h.nlo, fun q hq => ?_, fun q h1 h2 => ?_, below_ch hlo4 hs (fun k hk => by have e : k = g := hk; rw [e]; exact h.glo) hlo4.size⟩
  · rcases hfx q hq with h1 | h1
    · exact h.wlo q h1
    · exact Nat.le_trans h.lo.size h1
  · rcases hfx q h2 with h3 | h3
    · exact h.dis q h1 h3
    · exact absurd (h.nums.lt q h1).2 (Nat.not_lt.2 h3)
end
theorem inner_app {w : World} {us vs : List Value} {xss yss : List (List Int)} (h1 : InnerP w (FU us) us xss) (h2 : InnerP w (FU vs) vs yss) (hd : ∀ k, FU us k → FU vs k → False) : InnerP w (FU (us ++ vs)) (us ++ vs) (xss ++ yss) := by
  obtain ⟨a1, b1, c1⟩ := h1
  obtain ⟨a2, b2, c2⟩ := h2
  have sp : ∀ (i : Nat) (u : Value), (us ++ vs)[i]? = some u → (i < us.length ∧ us[i]? = some u) ∨ (us.length ≤ i ∧ vs[i - us.length]? = some u) := fun i u hu => by
    rcases Nat.lt_or_ge i us.length with h | h
    · rw [List.getElem?_append_left h] at hu; exact .inl ⟨h, hu⟩
    · rw [List.getElem?_append_right h] at hu; exact .inr ⟨h, hu⟩
  refine ⟨by simp [a1, a2], fun i u xs hu hx => ?_, fun i j u v hu hv k hk hk' => ?_⟩
  · rcases sp i u hu with ⟨hi, hu'⟩ | ⟨hi, hu'⟩
    · rw [List.getElem?_append_left (by omega)] at hx
      obtain ⟨A, n, c, rfl, hn, ho, _⟩ := b1 i u xs hu' hx
      exact ⟨A, n, c, rfl, hn, ho, fun k hk => ⟨_, List.mem_of_getElem? hu, hk⟩⟩
    · rw [List.getElem?_append_right (by omega), ← a1] at hx
      obtain ⟨A, n, c, rfl, hn, ho, _⟩ := b2 _ u xs hu' hx
      exact ⟨A, n, c, rfl, hn, ho, fun k hk => ⟨_, List.mem_of_getElem? hu, hk⟩⟩
  · rcases sp i u hu with ⟨hi, hu'⟩ | ⟨hi, hu'⟩ <;> rcases sp j v hv with ⟨hj, hv'⟩ | ⟨hj, hv'⟩
    · exact c1 i j u v hu' hv' k hk hk'
    · exact (hd k ⟨u, List.mem_of_getElem? hu', hk⟩ ⟨v, List.mem_of_getElem? hv', hk'⟩).elim
    · exact (hd k ⟨v, List.mem_of_getElem? hv', hk'⟩ ⟨u, List.mem_of_getElem? hu', hk⟩).elim
    · have := c2 _ _ u v hu' hv' k hk hk'; omega
/-- A proof and whether it is valid. -/
def OutP (w : World) (ns : List Int) (ws : List (List Int)) (b : Bool) (e : Ending) (w' : World) : Prop :=
  ∃ (A : Option Addr) (n c : Nat) (B : Option Addr) (m d : Nat) (us : List Value), e = .returned (.tuple #[prfV 8 A n c B m d, .bool b]) ∧ w'.ownsRow 0 2 1 (.slice A n c) n (ints ns) ∧ OwnX w' B m d us ws ∧ (∀ q, Fo (.slice A n c) q → w.heap.size ≤ q) ∧ (∀ q, FX B m d us q → w.heap.size ≤ q) ∧ (∀ q, Fo (.slice A n c) q → FX B m d us q → False) ∧ Below w.heap.size w w'
/-- A proof. -/
def OutQ (w : World) (ns : List Int) (ws : List (List Int)) (e : Ending) (w' : World) : Prop :=
  ∃ (A : Option Addr) (n c : Nat) (B : Option Addr) (m d : Nat) (us : List Value), e = .returned (prfV 8 A n c B m d) ∧ w'.ownsRow 0 2 1 (.slice A n c) n (ints ns) ∧ OwnX w' B m d us ws ∧ (∀ q, Fo (.slice A n c) q → w.heap.size ≤ q) ∧ (∀ q, FX B m d us q → w.heap.size ≤ q) ∧ (∀ q, Fo (.slice A n c) q → FX B m d us q → False) ∧ Below w.heap.size w w'
end Go.Proofs.Ytcpkhhammafchaa
/- ContextsIn: the program's answer. -/
namespace Go.Proofs.Ytcpkhhammafchaa
open Go.RowKit
set_option linter.unusedVariables false
set_option linter.unusedSimpArgs false
theorem tot_bd {l : List (List Int)} {b : Nat} (h : ∀ x ∈ l, x.length ≤ b) : tot l ≤ l.length * b := by
  induction l with
  | nil => simp [tot]
  | cons y r ih =>
    simp only [tot, List.length_cons]
    have h1 := h y (by simp)
    have h2 := ih (fun x hx => h x (by simp [hx]))
    rw [Nat.add_mul]
    omega
theorem words_bd {ws vs : List (List Int)} (h : ws.all wordB = true) (hl : ws.length ≤ 300) (hs : ∀ x ∈ vs, x ∈ ws) (hv : vs.length ≤ ws.length) : tot vs ≤ 1000000 ∧ vs.length ≤ 1000000 := by
  have h1 : ∀ x ∈ vs, x.length ≤ 400 := fun x hx => by
    have h2 := List.all_eq_true.1 h x (hs x hx)
    simp only [wordB, Bool.and_eq_true, decide_eq_true_eq] at h2
    exact h2.2
  have h3 := tot_bd h1
  constructor
  · have h4 : vs.length * 400 ≤ 300 * 400 := Nat.mul_le_mul_right _ (by omega)
    omega
  · omega
theorem csC_zero {k : Int} {ns : List Int} {ws : List (List Int)} (h : csC k ns ws = 0) : okP k ns ws = true ∧ csOk k ns ws = true := by
  have h1 : okP k ns ws = true := by cases h2 : okP k ns ws; rw [csC_bad h2] at h; cases h; rfl
  exact ⟨h1, by cases h2 : csOk k ns ws; rw [csC_no h1 h2] at h; cases h; rfl⟩
theorem ciR_b0 (k : Int) (ns : List Int) (ws : List (List Int)) : tot (ciR k ns ws).1 ≤ 1000000 ∧ (ciR k ns ws).1.length ≤ 1000000 := by
  unfold ciR
  split
  · rename_i h
    obtain ⟨_, _, hl, _, hw⟩ := okP_bd (csC_zero h).1
    exact words_bd hw hl (fun x hx => List.mem_of_mem_take hx) (by simp [lefts]; omega)
  · simp [tot]
theorem ciR_b1 (k : Int) (ns : List Int) (ws : List (List Int)) : tot (ciR k ns ws).2.1 ≤ 1000000 ∧ (ciR k ns ws).2.1.length ≤ 1000000 := by
  unfold ciR
  split
  · rename_i h
    obtain ⟨_, _, hl, _, hw⟩ := okP_bd (csC_zero h).1
    exact words_bd hw hl (fun x hx => List.mem_of_mem_drop (List.mem_of_mem_take hx)) (by simp [rights]; omega)
  · simp [tot]
theorem ciR_b2 (k : Int) (ns : List Int) (ws : List (List Int)) : tot (ciR k ns ws).2.2.1 ≤ 1000000 ∧ (ciR k ns ws).2.2.1.length ≤ 1000000 := by
  unfold ciR
  split
  · rename_i h
    obtain ⟨_, _, hl, _, hw⟩ := okP_bd (csC_zero h).1
    exact words_bd hw hl (fun x hx => List.mem_of_mem_drop hx) (by simp [ctxs])
  · simp [tot]
theorem ciR_b3 (k : Int) (ns : List Int) (ws : List (List Int)) : (ciR k ns ws).2.2.2.1.length ≤ 1000000 := by
  unfold ciR
  split
  · rename_i h
    obtain ⟨_, hl, _⟩ := okP_bd (csC_zero h).1
    simp; omega
  · simp
theorem stated_pos {sts : List Int} {cs : List (List Int)} {xs : List Int} (h : xs ∈ stated sts cs) : 1 ≤ xs.length := by
  obtain ⟨i, hi, he⟩ := List.mem_iff_getElem.1 h
  subst he
  simp [stated]
theorem own_types2 {w : World} {b1 b2 e1 e2 s1 s2 n1 n2 : Nat} {v1 v2 : Value} {us vs : List Value} (h : w.ownsRow b1 e1 s1 v1 n1 us) (h2 : w.ownsRow b2 e2 s2 v2 n2 vs) (hT : e1 ≠ e2) : ∀ k, Fo v1 k → Fo v2 k → False := by
  intro k a b
  rcases h.2 with ⟨rfl, _⟩ | ⟨g1, _, cs1, rfl, _, hg1, _⟩
  · simp [Fo, Value.ownBlock] at a
  · obtain rfl : g1 = k := by simpa [Fo, Value.ownBlock] using a
    rcases h2.2 with ⟨rfl, _⟩ | ⟨g2, _, cs2, rfl, _, hg2, _⟩
    · simp [Fo, Value.ownBlock] at b
    · obtain rfl : g2 = g1 := by simpa [Fo, Value.ownBlock] using b
      exact blk_ne hg1 hg2 hT rfl
theorem own_up2 {w : World} {base e s n B : Nat} {v : Value} {vs : List Value} (h : w.ownsRow base e s v n vs) (hB : ∀ k, Fo v k → B ≤ k) : w.ownsRow B e s v n vs := by
  refine ⟨h.1, ?_⟩
  rcases h.2 with h0 | ⟨g, c, cs, rfl, h2, h3⟩
  · exact .inl h0
  · exact .inr ⟨g, c, cs, rfl, hB g (by simp [Fo, Value.ownBlock]), h3⟩
theorem tmp_new (w : World) (y : Value) (T : Nat) : (w.alloc (.cells #[y] T)).ownsRow 0 T 1 (.slice (some ⟨w.heap.size, 0, none⟩) 1 1) 1 [y] := own_base (own_lit w #[y] 1 T rfl (by omega)) (Nat.zero_le _)
theorem own_drw {w : World} {base e s n : Nat} {v : Value} {vs : List Value} (h : w.ownsRow base e s v n vs) : w.drew.ownsRow base e s v n vs := h
theorem tmp1 (w : World) (y : Value) (T : Nat) : (w.alloc (.cells #[y] T)).drew.ownsRow 0 T 1 (.slice (some ⟨w.heap.size, 0, none⟩) 1 1) 1 [y] := own_drw (tmp_new w y T)
theorem tmp2a (w : World) (o : Obj) (y : Value) (T : Nat) : ((w.alloc o).alloc (.cells #[y] T)).drew.ownsRow 0 T 1 (.slice (some ⟨w.heap.size + 1, 0, none⟩) 1 1) 1 [y] := by
  have h := tmp_new (w.alloc o) y T
  rw [World.size_alloc] at h
  exact own_drw h
theorem tmp2b (w : World) (o : Obj) (y : Value) (T : Nat) : ((w.alloc (.cells #[y] T)).alloc o).drew.ownsRow 0 T 1 (.slice (some ⟨w.heap.size, 0, none⟩) 1 1) 1 [y] := own_drw (ownN_below (tmp_new w y T) (below_new _ _) (Nat.le_refl _))
/-- Two rows of different elements that grow, above w3's end. -/
structure Two (w3 w : World) (i : Nat) (A : Option Addr) (c : Nat) (la : List Value) (j : Nat) (B : Option Addr) (d : Nat) (lb : List Value) : Prop where
  a : w.ownsRow 0 25 1 (.slice A i c) i la
  b : w.ownsRow 0 2 1 (.slice B j d) j lb
  fa : ∀ q, Fo (.slice A i c) q → w3.heap.size ≤ q
  fb : ∀ q, Fo (.slice B j d) q → w3.heap.size ≤ q
  lo : Below w3.heap.size w3 w
section
variable {w3 w w' : World} {i j c d c' : Nat} {A B A' : Option Addr} {la lb : List Value} {u : Value}
theorem Two.drew (h : Two w3 w i A c la j B d lb) : Two w3 w.drew i A c la j B d lb := ⟨h.a, h.b, h.fa, h.fb, below_drew1 h.lo⟩
theorem Two.alloc (h : Two w3 w i A c la j B d lb) {o : Obj} : Two w3 (w.alloc o) i A c la j B d lb := ⟨ownN_below h.a (below_new _ _) (Nat.le_refl _), ownN_below h.b (below_new _ _) (Nat.le_refl _), h.fa, h.fb, h.lo.alloc h.lo.size _⟩
theorem Two.stepA (h : Two w3 w i A c la j B d lb) (ho : w'.ownsRow 0 25 1 (.slice A' (i + 1) c') (i + 1) (la ++ [u])) (hc : Ch (Fo (.slice A i c)) w w') (hf : ∀ q, Fo (.slice A' (i + 1) c') q → Fo (.slice A i c) q ∨ w.heap.size ≤ q) : Two w3 w' (i + 1) A' c' (la ++ [u]) j B d lb :=
  ⟨ho, own_ch h.b hc (fun q a b => own_types2 h.a h.b (by decide) q b a), fun q hq => (hf q hq).elim (h.fa q) (fun h2 => Nat.le_trans h.lo.size h2), h.fb, below_ch h.lo hc h.fa h.lo.size⟩
theorem Two.stepB (h : Two w3 w i A c la j B d lb) (ho : w'.ownsRow 0 2 1 (.slice A' (j + 1) c') (j + 1) (lb ++ [u])) (hc : Ch (Fo (.slice B j d)) w w') (hf : ∀ q, Fo (.slice A' (j + 1) c') q → Fo (.slice B j d) q ∨ w.heap.size ≤ q) : Two w3 w' i A c la (j + 1) A' c' (lb ++ [u]) :=
  ⟨own_ch h.a hc (fun q a b => own_types2 h.a h.b (by decide) q a b), ho, h.fa, fun q hq => (hf q hq).elim (h.fb q) (fun h2 => Nat.le_trans h.lo.size h2), below_ch h.lo hc h.fb h.lo.size⟩
theorem Two.tempB (h : Two w3 w i A c la j B d lb) {v : Value} (ho : w.ownsRow 0 2 1 v 1 [u]) (hc : Ch (Fo (.slice A i c)) w w') : w'.ownsRow 0 2 1 v 1 [u] := own_ch ho hc (fun q a b => own_types2 h.a ho (by decide) q b a)
theorem Two.tempA (h : Two w3 w i A c la j B d lb) {v : Value} (ho : w.ownsRow 0 25 1 v 1 [u]) (hc : Ch (Fo (.slice B j d)) w w') : w'.ownsRow 0 25 1 v 1 [u] := own_ch ho hc (fun q a b => own_types2 ho h.b (by decide) q a b)
theorem tw_at {F : Nat → Prop} (hc : Ch F w w') (h : Two w3 w i A c la j B d lb) : Two w3 w i A c la j B d lb := h
theorem Two.cell (h : Two w3 w i A c la j B d lb) {p : Addr} (hp : p.block < w3.heap.size) {v : Value} (hv : w3.cell? p = some v) : w.cell? p = some v := (h.lo.cell hp).trans hv
end
end Go.Proofs.Ytcpkhhammafchaa
