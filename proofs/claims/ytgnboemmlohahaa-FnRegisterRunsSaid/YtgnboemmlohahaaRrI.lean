/- Programs of registers (reference): drawn programs. -/
import Derived.Test.YtgnboemmlohahaaRrH
import Derived.Test.YtgnboemmlohahaaSrc
import Derived.Test.YtgnboemmlohahaaWr
namespace Go.Proofs.Ytgnboemmlohahaa
open Go.RowKit
set_option linter.unusedVariables false
set_option linter.unusedSimpArgs false
attribute [local go_sem ↓] Go.wp_at_zero Go.wp_at_succ
/-- A source of choices that has read so many bytes at most. -/
def SrcAt (w : World) (g : Nat) (A : Option Addr) (n c lim : Nat) : Prop := ∃ (k : Nat) (seed : Int), k ≤ lim ∧ w.heap[g]? = some (.cells #[.slice A n c, .int .i64 k, .int .u64 seed] 61 (0, 0))
structure SrS (w0 : World) (g : Nat) (A : Option Addr) (n : Nat) (bs : List Int) : Prop where
  hr : Rd w0 A n (bytesV bs)
  hbs : ∀ b ∈ bs, 0 ≤ b ∧ b ≤ 255
  hn : n ≤ 1000000000
  g0 : w0.heap.size ≤ g
theorem SrcAt.ch {w w' : World} {g n c lim : Nat} {A : Option Addr} {F : Nat → Prop} (h : SrcAt w g A n c lim) (hc : Ch F w w') (hg : ¬ F g) : SrcAt w' g A n c lim := by
  obtain ⟨k, s, h1, h2⟩ := h
  exact ⟨k, s, h1, blk_ch h2 hc hg⟩
theorem SrcAt.below {w w' : World} {g n c lim : Nat} {A : Option Addr} (h : SrcAt w g A n c lim) (hb : Below w.heap.size w w') : SrcAt w' g A n c lim := h.ch (F := fun _ => False) (ch_below hb) (fun h => h)
theorem SrcAt.not {w : World} {g n c lim base e s m : Nat} {A : Option Addr} {v : Value} {vs : List Value} (h : SrcAt w g A n c lim) (hT : 61 ≠ e) (ho : w.ownsRow base e s v m vs) : ¬ Fo v g := by
  obtain ⟨k, s, h1, h2⟩ := h
  exact ow_not h2 hT ho
def PickP (w0 w : World) (g : Nat) (A : Option Addr) (n c lim : Nat) (m : Int) (e : Ending) (w' : World) : Prop :=
  ∃ x : Int, e = .returned (.int .i64 x) ∧ 0 ≤ x ∧ x < m ∧ SrcAt w' g A n c lim ∧ Ch (· = g) w w' ∧ Below w0.heap.size w0 w'
theorem pickS {w0 w : World} {g n c lim : Nat} {A : Option Addr} {bs : List Int} (hS : SrS w0 g A n bs) (hg : SrcAt w g A n c lim) (hb : Below w0.heap.size w0 w) (hl : lim ≤ 800000000) (m : Int) (h1 : 1 ≤ m) (hm : m ≤ 1000000) :
    Calls Try.prog 14 #[.pointer (some ⟨g, 0, none⟩), .int .i64 m] w (PickP w0 w g A n c (lim + 2) m) := by
  obtain ⟨k, s, hk, hg2⟩ := hg
  have hgA : 0 < n → ∀ b off, A = some ⟨b, off, none⟩ → b ≠ g := fun hp b off e => by
    obtain ⟨b', off', e', hlt, _⟩ := hS.hr.2 hp
    rw [e] at e'; injection e' with e'; injection e' with e1
    have := hS.g0
    omega
  refine (pick_any w g A n c k s hg2 bs (hS.hr.below hb (Nat.le_refl _)) hgA hS.hbs hS.hn (by omega) m hm).mono ?_
  rintro e w' ⟨x, s', k', rfl, hx0, hx1, hk', hg', hc⟩
  refine ⟨x, rfl, hx0, ?_, ⟨k', s', by omega, hg'⟩, hc, below_ch hb hc (fun q e => by rw [e]; exact hS.g0) hb.size⟩
  split at hx1 <;> omega
def PickB (w0 w : World) (g : Nat) (A : Option Addr) (n c lim : Nat) (e : Ending) (w' : World) : Prop :=
  ∃ b : Bool, e = .returned (.bool b) ∧ SrcAt w' g A n c lim ∧ Ch (· = g) w w' ∧ Below w0.heap.size w0 w'
set_option maxHeartbeats 400000 in
theorem oneS {w0 w : World} {g n c lim : Nat} {A : Option Addr} {bs : List Int} (hS : SrS w0 g A n bs) (hg : SrcAt w g A n c lim) (hb : Below w0.heap.size w0 w) (hl : lim ≤ 800000000) (m : Int) (h1 : 1 ≤ m) (hm : m ≤ 1000000) :
    Calls Try.prog 42 #[.pointer (some ⟨g, 0, none⟩), .int .i64 m] w (PickB w0 w g A n c (lim + 2)) := by
  have H := Lib.hid (pickS hS hg hb hl m h1 hm)
  clear hS hg hb hl h1 hm
  go_enter Try.func42, Try.ntmps42
  go_wp2_with (go_at_call 14
               refine H.out.mono ?_
               rintro e w' ⟨x, rfl, h0, h1, h2, h3, h4⟩
               have H2 := Lib.hid (And.intro h2 (And.intro h3 h4))
               clear h0 h1 h2 h3 h4)
  go_ret
  exact ⟨_, rfl, H2.out.1, H2.out.2.1, H2.out.2.2⟩
/-- A program that is being drawn. -/
structure FlS (w0 w : World) (g : Nat) (A : Option Addr) (n c lim : Nat) (A1 : Option Addr) (k c1 : Nat) (ps : List Ins) (wr : World) : Prop where
  own : wr.ownsRow w.heap.size 49 4 (.slice A1 k c1) k (ints (flatI ps))
  src : SrcAt wr g A n c lim
  ch : Ch (· = g) w wr
  bel : Below w0.heap.size w0 wr
theorem FlS.pick {w0 w wr w' : World} {g n c lim lim' k c1 : Nat} {A A1 : Option Addr} {ps : List Ins} (h : FlS w0 w g A n c lim A1 k c1 ps wr) (hc : Ch (· = g) wr w') (hs : SrcAt w' g A n c lim') (hb : Below w0.heap.size w0 w') : FlS w0 w g A n c lim' A1 k c1 ps w' :=
  ⟨own_ch h.own hc (fun q hq e => h.src.not (by decide) h.own (by rw [← e]; exact hq)), hs, h.ch.trans hc, hb⟩
theorem FlS.below {w0 w wr w' : World} {g n c lim k c1 : Nat} {A A1 : Option Addr} {ps : List Ins} (h : FlS w0 w g A n c lim A1 k c1 ps wr) (hb : Below wr.heap.size wr w') : FlS w0 w g A n c lim A1 k c1 ps w' :=
  ⟨ownN_below h.own hb (Nat.le_refl _), h.src.below hb, h.ch.trans (ch_below hb), h.bel.trans (hb.mono h.bel.size)⟩
theorem FlS.set {w0 w wr : World} {g n c lim k c1 gx i : Nat} {A A1 : Option Addr} {ps : List Ins} {v : Value} (h : FlS w0 w g A n c lim A1 k c1 ps wr) (h1 : ∀ q, Fo (.slice A1 k c1) q → q ≠ gx) (h2 : g ≠ gx) (h3 : w.heap.size ≤ gx) (h4 : w0.heap.size ≤ w.heap.size) : FlS w0 w g A n c lim A1 k c1 ps (wr.setCell ⟨gx, i, none⟩ v) :=
  ⟨own_ch h.own (ch_set _ _ _ _) (fun q hq e => h1 q hq e), h.src.ch (ch_set _ _ _ _) h2, ⟨h.ch.os, h.ch.tape, h.ch.output, by simpa using h.ch.size, fun q hq hn => ((ch_set wr gx i v).block q (Nat.lt_of_lt_of_le hq h.ch.size) (by omega)).trans (h.ch.block q hq hn)⟩, below_ch h.bel (ch_set _ _ _ _) (fun q e => by rw [e]; omega) h.bel.size⟩
def DrawP (w0 w : World) (g : Nat) (A : Option Addr) (n c lim mx : Nat) (e : Ending) (w' : World) : Prop :=
  ∃ A1 m c1 p, e = .returned (.slice A1 m c1) ∧ FlS w0 w g A n c lim A1 m c1 p w' ∧ okProg p = true ∧ m ≤ mx
end Go.Proofs.Ytgnboemmlohahaa
