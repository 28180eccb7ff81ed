/- FindContexts (reference): its sets in memory. Written by mk_frm.py. -/
import Derived.Test.YtcpkhhammafchaaFdM
import Derived.Test.YtcpkhhammafchaaMh
import Derived.Test.YtcpkhhammafchaaCkS
namespace Go.Proofs.Ytcpkhhammafchaa
open Go.RowKit
set_option linter.unusedVariables false
set_option linter.unusedSimpArgs false
/-- The reference's sets of windows and contexts; what they hold lies in F. -/
structure RefX (w : World) (F : Nat → Prop) (g N : Nat) (A1 : Option Addr) (n1 c1 : Nat) (us1 : List Value) (A2 : Option Addr) (n2 c2 : Nat) (us2 : List Value) (A3 : Option Addr) (n3 c3 : Nat) (us3 : List Value) (A4 : Option Addr) (c4 : Nat) (sts : List Int) (cs : List (List Int)) (S : St3) : Prop where
  bs : w.heap[g]? = some (.cells #[.int .i64 N, .slice A1 n1 c1, .slice A2 n2 c2, .slice A3 n3 c3, .slice A4 n3 c4] 117 (0, 0))
  x1 : OwnX w A1 n1 c1 us1 S.l
  x2 : OwnX w A2 n2 c2 us2 S.r
  x3 : OwnX w A3 n3 c3 us3 cs
  x4 : w.ownsRow 0 2 1 (.slice A4 n3 c4) n3 (ints sts)
  st : stated sts cs = S.c
  d12 : ∀ q, FX A1 n1 c1 us1 q → FX A2 n2 c2 us2 q → False
  d13 : ∀ q, FX A1 n1 c1 us1 q → FX A3 n3 c3 us3 q → False
  d23 : ∀ q, FX A2 n2 c2 us2 q → FX A3 n3 c3 us3 q → False
  d14 : ∀ q, FX A1 n1 c1 us1 q → Fo (.slice A4 n3 c4) q → False
  d24 : ∀ q, FX A2 n2 c2 us2 q → Fo (.slice A4 n3 c4) q → False
  d34 : ∀ q, FX A3 n3 c3 us3 q → Fo (.slice A4 n3 c4) q → False
  f0 : F g
  f1 : ∀ q, FX A1 n1 c1 us1 q → F q
  f2 : ∀ q, FX A2 n2 c2 us2 q → F q
  f3 : ∀ q, FX A3 n3 c3 us3 q → F q
  f4 : ∀ q, Fo (.slice A4 n3 c4) q → F q
  lt : ∀ q, F q → q < w.heap.size
theorem fx_neg {w : World} {A : Option Addr} {n c g : Nat} {us : List Value} {xss : List (List Int)} {cells : Array Value} (h : OwnX w A n c us xss) (hg : w.heap[g]? = some (.cells cells 117 (0, 0))) {q : Nat} (hq : FX A n c us q) : q ≠ g := by
  intro e
  subst e
  rcases hq with hq | hq
  · obtain ⟨ds, h1⟩ := own_fo h.1 hq; exact blk_ne hg h1 (by decide) rfl
  · obtain ⟨ds, h1⟩ := inner_fo h.2 hq; exact blk_ne hg h1 (by decide) rfl
theorem fo_neg {w : World} {A : Option Addr} {n c g : Nat} {vs : List Value} {cells : Array Value} (h : w.ownsRow 0 2 1 (.slice A n c) n vs) (hg : w.heap[g]? = some (.cells cells 117 (0, 0))) {q : Nat} (hq : Fo (.slice A n c) q) : q ≠ g := by
  intro e
  subst e
  obtain ⟨ds, h1⟩ := own_fo h hq
  exact blk_ne hg h1 (by decide) rfl
section
variable {w w' : World} {F : Nat → Prop} {g N : Nat} {A1 : Option Addr} {n1 c1 : Nat} {us1 : List Value} {A2 : Option Addr} {n2 c2 : Nat} {us2 : List Value} {A3 : Option Addr} {n3 c3 : Nat} {us3 : List Value} {A4 : Option Addr} {c4 : Nat} {sts : List Int} {cs : List (List Int)} {S : St3}
theorem RefX.ch {G : Nat → Prop} (h : RefX w F g N A1 n1 c1 us1 A2 n2 c2 us2 A3 n3 c3 us3 A4 c4 sts cs S) (hc : Ch G w w') (hd : ∀ q, F q → G q → False) : RefX w' F g N A1 n1 c1 us1 A2 n2 c2 us2 A3 n3 c3 us3 A4 c4 sts cs S :=
  ⟨blk_ch h.bs hc (fun e => hd g h.f0 e), h.x1.ch hc (fun q a b => hd q (h.f1 q a) b), h.x2.ch hc (fun q a b => hd q (h.f2 q a) b), h.x3.ch hc (fun q a b => hd q (h.f3 q a) b), own_ch h.x4 hc (fun q a b => hd q (h.f4 q a) b), h.st, h.d12, h.d13, h.d23, h.d14, h.d24, h.d34, h.f0, h.f1, h.f2, h.f3, h.f4, fun q hq => Nat.lt_of_lt_of_le (h.lt q hq) hc.size⟩
theorem RefX.below (h : RefX w F g N A1 n1 c1 us1 A2 n2 c2 us2 A3 n3 c3 us3 A4 c4 sts cs S) (hb : Below w.heap.size w w') : RefX w' F g N A1 n1 c1 us1 A2 n2 c2 us2 A3 n3 c3 us3 A4 c4 sts cs S := h.ch (ch_below (F := fun _ => False) hb) (fun _ _ h => h)
/-- The blocks that a word more brings. -/
def FN (F : Nat → Prop) (v : Value) (w w' : World) (q : Nat) : Prop := (F q ∨ Fo v q ∨ w.heap.size ≤ q) ∧ q < w'.heap.size

theorem refx_putl (h : RefX w F g N A1 n1 c1 us1 A2 n2 c2 us2 A3 n3 c3 us3 A4 c4 sts cs S) (hri : Rises S.l) {A7 : Option Addr} {n7 c7 : Nat} {x : List Int} (ho : w.ownsRow 0 2 1 (.slice A7 n7 c7) n7 (ints x)) (hn : n7 ≤ 1000000000) (hd : ∀ q, Fo (.slice A7 n7 c7) q → F q → False) {e : Ending} {w3 : World} (hq : PutQ w A1 n1 c1 us1 S.l (.slice A7 n7 c7) x e w3) :
    ∃ (A' : Option Addr) (n' c' : Nat) (us' : List Value), e = .returned (.slice A' n' c') ∧ RefX (w3.setCell ⟨g, 1, none⟩ (.slice A' n' c')) (FN F (.slice A7 n7 c7) w (w3.setCell ⟨g, 1, none⟩ (.slice A' n' c'))) g N A' n' c' us' A2 n2 c2 us2 A3 n3 c3 us3 A4 c4 sts cs ⟨putL S.l x, S.r, S.c⟩ ∧ Ch F w (w3.setCell ⟨g, 1, none⟩ (.slice A' n' c')) ∧ w3.heap[g]? = w.heap[g]? := by
  obtain ⟨A', n', c', us', rfl, hx', hf', hc⟩ := putq_own2 h.x1 hri ho hn (fun q a b => hd q b (h.f1 q a)) hq
  have hs := ch_set w3 g 1 (.slice A' n' c')
  have hng : ¬ Fo (.slice A1 n1 c1) g := fun b => fx_neg h.x1 h.bs (.inl b) rfl
  have hbs := blk_ch h.bs hc hng
  have dn : ∀ q, FX A' n' c' us' q → F q → (FX A1 n1 c1 us1 q → False) → False := fun q a b k => by
    rcases hf' q a with j | j | j
    · exact k j
    · exact hd q j b
    · have := h.lt q b; omega
  have gn : ∀ q, FX A' n' c' us' q → q ≠ g := fun q a e => by
    subst e
    exact dn _ a h.f0 (fun b => fx_neg h.x1 h.bs b rfl)
  refine ⟨A', n', c', us', rfl, ⟨by simpa using blk_set hbs 1 (.slice A' n' c'), hx'.ch hs (fun q a b => gn q a b), (h.x2.ch hc (fun q a b => h.d12 q (.inl b) a)).ch hs (fun q a b => fx_neg h.x2 h.bs a b), (h.x3.ch hc (fun q a b => h.d13 q (.inl b) a)).ch hs (fun q a b => fx_neg h.x3 h.bs a b), own_ch (own_ch h.x4 hc (fun q a b => h.d14 q (.inl b) a)) hs (fun q a b => fo_neg h.x4 h.bs a b), h.st, fun q a b => dn q a (h.f2 q b) (fun a => h.d12 q a b), fun q a b => dn q a (h.f3 q b) (fun a => h.d13 q a b), h.d23, fun q a b => dn q a (h.f4 q b) (fun a => h.d14 q a b), h.d24, h.d34, ⟨.inl h.f0, by have := blk_lt hbs; simpa using this⟩, fun q a => ⟨by rcases hf' q a with k | k | k; exact .inl (h.f1 q k); exact .inr (.inl k); exact .inr (.inr k), by have := hx'.lt a; simpa using this⟩, fun q a => ⟨.inl (h.f2 q a), by have := h.lt q (h.f2 q a); have := hc.size; simp; omega⟩, fun q a => ⟨.inl (h.f3 q a), by have := h.lt q (h.f3 q a); have := hc.size; simp; omega⟩, fun q a => ⟨.inl (h.f4 q a), by have := h.lt q (h.f4 q a); have := hc.size; simp; omega⟩, fun q a => a.2⟩, ?_, ?_⟩
  · exact (hc.mono (fun q a => h.f1 q (.inl a))).trans (hs.mono (fun q a => by have e : q = g := a; subst e; exact h.f0))
  · exact hbs.trans h.bs.symm

theorem refx_putr (h : RefX w F g N A1 n1 c1 us1 A2 n2 c2 us2 A3 n3 c3 us3 A4 c4 sts cs S) (hri : Rises S.r) {A7 : Option Addr} {n7 c7 : Nat} {x : List Int} (ho : w.ownsRow 0 2 1 (.slice A7 n7 c7) n7 (ints x)) (hn : n7 ≤ 1000000000) (hd : ∀ q, Fo (.slice A7 n7 c7) q → F q → False) {e : Ending} {w3 : World} (hq : PutQ w A2 n2 c2 us2 S.r (.slice A7 n7 c7) x e w3) :
    ∃ (A' : Option Addr) (n' c' : Nat) (us' : List Value), e = .returned (.slice A' n' c') ∧ RefX (w3.setCell ⟨g, 2, none⟩ (.slice A' n' c')) (FN F (.slice A7 n7 c7) w (w3.setCell ⟨g, 2, none⟩ (.slice A' n' c'))) g N A1 n1 c1 us1 A' n' c' us' A3 n3 c3 us3 A4 c4 sts cs ⟨S.l, putL S.r x, S.c⟩ ∧ Ch F w (w3.setCell ⟨g, 2, none⟩ (.slice A' n' c')) ∧ w3.heap[g]? = w.heap[g]? := by
  obtain ⟨A', n', c', us', rfl, hx', hf', hc⟩ := putq_own2 h.x2 hri ho hn (fun q a b => hd q b (h.f2 q a)) hq
  have hs := ch_set w3 g 2 (.slice A' n' c')
  have hng : ¬ Fo (.slice A2 n2 c2) g := fun b => fx_neg h.x2 h.bs (.inl b) rfl
  have hbs := blk_ch h.bs hc hng
  have dn : ∀ q, FX A' n' c' us' q → F q → (FX A2 n2 c2 us2 q → False) → False := fun q a b k => by
    rcases hf' q a with j | j | j
    · exact k j
    · exact hd q j b
    · have := h.lt q b; omega
  have gn : ∀ q, FX A' n' c' us' q → q ≠ g := fun q a e => by
    subst e
    exact dn _ a h.f0 (fun b => fx_neg h.x2 h.bs b rfl)
  refine ⟨A', n', c', us', rfl, ⟨by simpa using blk_set hbs 2 (.slice A' n' c'), (h.x1.ch hc (fun q a b => h.d12 q a (.inl b))).ch hs (fun q a b => fx_neg h.x1 h.bs a b), hx'.ch hs (fun q a b => gn q a b), (h.x3.ch hc (fun q a b => h.d23 q (.inl b) a)).ch hs (fun q a b => fx_neg h.x3 h.bs a b), own_ch (own_ch h.x4 hc (fun q a b => h.d24 q (.inl b) a)) hs (fun q a b => fo_neg h.x4 h.bs a b), h.st, fun q a b => dn q b (h.f1 q a) (fun b => h.d12 q a b), h.d13, fun q a b => dn q a (h.f3 q b) (fun a => h.d23 q a b), h.d14, fun q a b => dn q a (h.f4 q b) (fun a => h.d24 q a b), h.d34, ⟨.inl h.f0, by have := blk_lt hbs; simpa using this⟩, fun q a => ⟨.inl (h.f1 q a), by have := h.lt q (h.f1 q a); have := hc.size; simp; omega⟩, fun q a => ⟨by rcases hf' q a with k | k | k; exact .inl (h.f2 q k); exact .inr (.inl k); exact .inr (.inr k), by have := hx'.lt a; simpa using this⟩, fun q a => ⟨.inl (h.f3 q a), by have := h.lt q (h.f3 q a); have := hc.size; simp; omega⟩, fun q a => ⟨.inl (h.f4 q a), by have := h.lt q (h.f4 q a); have := hc.size; simp; omega⟩, fun q a => a.2⟩, ?_, ?_⟩
  · exact (hc.mono (fun q a => h.f2 q (.inl a))).trans (hs.mono (fun q a => by have e : q = g := a; subst e; exact h.f0))
  · exact hbs.trans h.bs.symm

/-- A context more, or none. -/
theorem refx_add (h : RefX w F g N A1 n1 c1 us1 A2 n2 c2 us2 A3 n3 c3 us3 A4 c4 sts cs S) {A7 : Option Addr} {n7 c7 : Nat} {st : Int} {y : List Int} (hri : Rises S.c) (hl : sts.length = cs.length) (ho : w.ownsRow 0 2 1 (.slice A7 n7 c7) n7 (ints y)) (hn : n7 ≤ 1000000000) (hd : ∀ q, Fo (.slice A7 n7 c7) q → F q → False) {e : Ending} (hq : AddQ w g N (.slice A1 n1 c1) (.slice A2 n2 c2) A3 n3 c3 us3 A4 c4 sts cs st (.slice A7 n7 c7) y e w') :
    ∃ (A3' : Option Addr) (n3' c3' : Nat) (us3' : List Value) (A4' : Option Addr) (c4' : Nat) (sts' : List Int) (cs' : List (List Int)), e = .returned (.bool (!decide ((st :: y) ∈ S.c))) ∧ sts'.length = cs'.length ∧ RefX w' (FN F (.slice A7 n7 c7) w w') g N A1 n1 c1 us1 A2 n2 c2 us2 A3' n3' c3' us3' A4' c4' sts' cs' ⟨S.l, S.r, putL S.c (st :: y)⟩ ∧ Ch F w w' := by
  have hsz : ∀ q, F q → q < w.heap.size := h.lt
  rcases hq with ⟨hin, rfl, m, rfl⟩ | ⟨hnin, B3, d3, B4, d4, p, rfl, hp, hput, hbx, hb3, hb4, hc, hf3, hf4⟩
  · have hch : Ch (fun _ => False) w (w.drewN m) := ch_drewN (Ch.refl _ _)
    have h2 := h.ch hch (fun _ _ h => h)
    rw [h.st] at hin
    refine ⟨A3, n3, c3, us3, A4, c4, sts, cs, by simp [hin], hl, ⟨h2.bs, h2.x1, h2.x2, h2.x3, h2.x4, by show stated sts cs = putL S.c (st :: y); rw [putL_in hri hin, h.st], h.d12, h.d13, h.d23, h.d14, h.d24, h.d34, ⟨.inl h.f0, h2.lt _ h.f0⟩, fun q a => ⟨.inl (h.f1 q a), h2.lt _ (h.f1 q a)⟩, fun q a => ⟨.inl (h.f2 q a), h2.lt _ (h.f2 q a)⟩, fun q a => ⟨.inl (h.f3 q a), h2.lt _ (h.f3 q a)⟩, fun q a => ⟨.inl (h.f4 q a), h2.lt _ (h.f4 q a)⟩, fun q a => a.2⟩, ch_drewN (Ch.refl _ _)⟩
  · rw [h.st] at hnin hput
    have hcl : cs.length = n3 := h.x3.ownp.rdl.len
    have hG : ∀ q, FU us3 q ∨ Fo (.slice A7 n7 c7) q → ¬ (q = g ∨ Fo (.slice A3 n3 c3) q ∨ Fo (.slice A4 n3 c4) q) := fun q a b => by
      rcases a with a | a
      · rcases b with b | b | b
        · exact fx_neg h.x3 h.bs (.inr a) b
        · exact fu_types h.x3.1 h.x3.2 q a b
        · exact h.d34 q (.inr a) b
      · rcases b with b | b | b
        · subst b; exact hd _ a h.f0
        · exact hd q a (h.f3 q (.inl b))
        · exact hd q a (h.f4 q b)
    obtain ⟨hx3, hfx⟩ := insx_own h.x3 ho hn (fun q a b => hd q b (h.f3 q a)) hp hb3 hc hG hf3
    have dn : ∀ q, FX B3 (n3 + 1) d3 (insAt us3 p (.slice A7 n7 c7)) q → F q → (FX A3 n3 c3 us3 q → False) → False := fun q a b k => by
      rcases hfx q a with j | j | j
      · exact k j
      · exact hd q j b
      · have := hsz q b; omega
    have dm : ∀ q, Fo (.slice B4 (n3 + 1) d4) q → F q → (Fo (.slice A4 n3 c4) q → False) → False := fun q a b k => by
      rcases hf4 q a with j | j
      · exact k j
      · have := hsz q b; omega
    have hlt : ∀ q, F q → q < w'.heap.size := fun q a => Nat.lt_of_lt_of_le (hsz q a) hc.size
    refine ⟨B3, n3 + 1, d3, insAt us3 p (.slice A7 n7 c7), B4, d4, insAt sts p st, insAt cs p y, by simp [hnin], by rw [ins_len (by omega), ins_len (by omega), hl], ⟨hbx, h.x1.ch hc (fun q a b => by
      rcases b with b | b | b
      · exact fx_neg h.x1 h.bs a b
      · exact h.d13 q a (.inl b)
      · exact h.d14 q a b), h.x2.ch hc (fun q a b => by
      rcases b with b | b | b
      · exact fx_neg h.x2 h.bs a b
      · exact h.d23 q a (.inl b)
      · exact h.d24 q a b), hx3, hb4, by show stated (insAt sts p st) (insAt cs p y) = putL S.c (st :: y); rw [stated_ins hl (by omega), hput, h.st], h.d12, fun q a b => dn q b (h.f1 q a) (fun b => h.d13 q a b), fun q a b => dn q b (h.f2 q a) (fun b => h.d23 q a b), fun q a b => dm q b (h.f1 q a) (fun b => h.d14 q a b), fun q a b => dm q b (h.f2 q a) (fun b => h.d24 q a b), ?_, ⟨.inl h.f0, hlt _ h.f0⟩, fun q a => ⟨.inl (h.f1 q a), hlt _ (h.f1 q a)⟩, fun q a => ⟨.inl (h.f2 q a), hlt _ (h.f2 q a)⟩, fun q a => ⟨by rcases hfx q a with k | k | k; exact .inl (h.f3 q k); exact .inr (.inl k); exact .inr (.inr k), hx3.lt a⟩, fun q a => ⟨by rcases hf4 q a with k | k; exact .inl (h.f4 q k); exact .inr (.inr k), (hb4.lt q a).2⟩, fun q a => a.2⟩, hc.mono (fun q a => by
      rcases a with a | a | a
      · subst a; exact h.f0
      · exact h.f3 q (.inl a)
      · exact h.f4 q a)⟩
    intro q a b
    rcases a with a | a
    · exact own_types2 hb4 hb3 (by decide) q b a
    · rcases hf4 q b with k | k
      · rcases hfx q (.inr a) with j | j | j
        · exact h.d34 q j k
        · exact hd q j (h.f4 q k)
        · have := hsz q (h.f4 q k); omega
      · obtain ⟨u, hu, hf⟩ := (fu_perm (ins_perm (us := us3) (p := p) (u := Value.slice A7 n7 c7)) q).2 a
        rcases List.mem_append.1 hu with hu | hu
        · have := h.x3.lt (.inr ⟨u, hu, hf⟩); omega
        · simp at hu; subst hu; have := (ho.lt q hf).2; omega
end
end Go.Proofs.Ytcpkhhammafchaa
