/- Draws from a source of choices: pick, one, among, with a short way to say where the source stands. -/
import Derived.Test.YtfjlbfnjnkaooaaSrc
namespace Go.Proofs.Ytfjlbfnjnkaooaa
open Go.RowKit
set_option linter.unusedVariables false
set_option linter.unusedSimpArgs false
/-- The source at block g reads bytes, of which at most K have been read. -/
structure SrcS (w : World) (g : Nat) (A : Option Addr) (n c : Nat) (bs : List Int) (K : Nat) : Prop where
  src : ∃ (a : Nat) (s : Int), a ≤ K ∧ w.heap[g]? = some (.cells #[.slice A n c, .int .i64 a, .int .u64 s] 93 (0, 0))
  rd : Rd w A n (bytesV bs)
  ne : 0 < n → ∀ b off, A = some ⟨b, off, none⟩ → b ≠ g
  by_ : ∀ b ∈ bs, 0 ≤ b ∧ b ≤ 255
  bd : n ≤ 1000000000
theorem SrcS.lt {w : World} {g n c K : Nat} {A : Option Addr} {bs : List Int} (h : SrcS w g A n c bs K) : g < w.heap.size := by
  obtain ⟨a, s, _, hg⟩ := h.src; exact blk_lt hg
theorem SrcS.mono {w : World} {g n c K K' : Nat} {A : Option Addr} {bs : List Int} (h : SrcS w g A n c bs K) (hk : K ≤ K') : SrcS w g A n c bs K' :=
  ⟨by obtain ⟨a, s, ha, hg⟩ := h.src; exact ⟨a, s, Nat.le_trans ha hk, hg⟩, h.rd, h.ne, h.by_, h.bd⟩
theorem SrcS.ch {F : Nat → Prop} {w w' : World} {g n c K : Nat} {A : Option Addr} {bs : List Int} (h : SrcS w g A n c bs K) (hc : Ch F w w') (hg : ¬ F g) (hF : ∀ k, F k → w.heap.size ≤ k) : SrcS w' g A n c bs K :=
  ⟨by obtain ⟨a, s, ha, hg'⟩ := h.src; exact ⟨a, s, ha, blk_ch hg' hc hg⟩, ch_rd h.rd hc (fun hp b off e hf => by
    obtain ⟨b', off', e', hlt, _⟩ := h.rd.2 hp
    rw [e] at e'; injection e' with e'; injection e' with e1
    have := hF b hf; omega), h.ne, h.by_, h.bd⟩
theorem SrcS.below {w w' : World} {g n c K : Nat} {A : Option Addr} {bs : List Int} (h : SrcS w g A n c bs K) (hb : Below w.heap.size w w') : SrcS w' g A n c bs K :=
  ⟨by obtain ⟨a, s, ha, hg'⟩ := h.src; exact ⟨a, s, ha, blk_bel hg' hb⟩, h.rd.below hb (Nat.le_refl _), h.ne, h.by_, h.bd⟩
theorem SrcS.alloc {w : World} {g n c K : Nat} {A : Option Addr} {bs : List Int} (h : SrcS w g A n c bs K) (o : Obj) : SrcS (w.alloc o) g A n c bs K := h.below (below_new w o)
theorem SrcS.far {w w' : World} {g n c K : Nat} {A : Option Addr} {bs : List Int} {base e s m : Nat} {v : Value} {vs : List Value} (h : SrcS w g A n c bs K) (hc : Ch (Fo v) w w') (ho : w.ownsRow base e s v m vs) (hb : g < base) (hA : ∀ b off, A = some ⟨b, off, none⟩ → 0 < n → b < base) : SrcS w' g A n c bs K :=
  ⟨by obtain ⟨a, s', ha, hg'⟩ := h.src; exact ⟨a, s', ha, blk_ch hg' hc (fun hf => by have := (ho.lt g hf).1; omega)⟩, ch_rd h.rd hc (fun hp b off e hf => by have := (ho.lt b hf).1; have := hA b off e hp; omega), h.ne, h.by_, h.bd⟩
/-- A number from 0 to hi is drawn. -/
def PickP (w : World) (g : Nat) (A : Option Addr) (n c : Nat) (bs : List Int) (K : Nat) (hi : Int) (e : Ending) (w' : World) : Prop := ∃ x : Int, e = .returned (.int .i64 x) ∧ 0 ≤ x ∧ x ≤ hi ∧ SrcS w' g A n c bs (K + 2) ∧ Ch (· = g) w w'
theorem pick_s (w : World) (g : Nat) (A : Option Addr) (n c : Nat) (bs : List Int) (K : Nat) (h : SrcS w g A n c bs K) (hK : K ≤ 900000000) (m : Int) (hm : m ≤ 1000000) (hi : Int) (h1 : m - 1 ≤ hi) (h0 : 0 ≤ hi) :
    Calls Try.prog 30 #[.pointer (some ⟨g, 0, none⟩), .int .i64 m] w (PickP w g A n c bs K hi) := by
  obtain ⟨a, s, ha, hg⟩ := h.src
  refine (pick_any w g A n c a s hg bs h.rd h.ne h.by_ h.bd (by omega) m hm).mono ?_
  rintro e w' ⟨x, s', k', rfl, hx0, hx1, hk, hg', hc⟩
  exact ⟨x, rfl, hx0, by split at hx1 <;> omega, ⟨⟨k', s', by omega, hg'⟩, ch_rd h.rd hc (fun hp b off e hf => h.ne hp b off e hf), h.ne, h.by_, h.bd⟩, hc⟩
def OneP (w : World) (g : Nat) (A : Option Addr) (n c : Nat) (bs : List Int) (K : Nat) (e : Ending) (w' : World) : Prop := ∃ x : Bool, e = .returned (.bool x) ∧ SrcS w' g A n c bs (K + 2) ∧ Ch (· = g) w w'
theorem one_s (w : World) (g : Nat) (A : Option Addr) (n c : Nat) (bs : List Int) (K : Nat) (h : SrcS w g A n c bs K) (hK : K ≤ 900000000) (m : Int) (h1 : 1 ≤ m) (hm : m ≤ 1000000) :
    Calls Try.prog 60 #[.pointer (some ⟨g, 0, none⟩), .int .i64 m] w (OneP w g A n c bs K) := by
  have H := Lib.hid h; clear h
  go_enter Try.func60, Try.ntmps60
  go_wp2_with fail
  refine (pick_s w g A n c bs K H.out hK m hm (m - 1) (by omega) (by omega)).mono ?_
  rintro e w' ⟨x, rfl, _, _, hs, hc⟩
  go_wp2_with fail
  go_ret
  exact ⟨_, rfl, hs, hc⟩
/-- One of some numbers is drawn. -/
def AmongP (w : World) (g : Nat) (A : Option Addr) (n c : Nat) (bs : List Int) (K : Nat) (xs : List Int) (e : Ending) (w' : World) : Prop := ∃ x : Int, e = .returned (.int .i64 x) ∧ x ∈ xs ∧ SrcS w' g A n c bs (K + 2) ∧ Ch (· = g) w w'
set_option maxHeartbeats 1000000 in
theorem among_s (w : World) (g : Nat) (A : Option Addr) (n c : Nat) (bs : List Int) (K : Nat) (h : SrcS w g A n c bs K) (hK : K ≤ 900000000) (A1 : Option Addr) (n1 c1 : Nat) (xs : List Int) (hr : Rd w A1 n1 (ints xs)) (h1 : 1 ≤ n1) (h2 : n1 ≤ 1000) (hg1 : ∀ b off, A1 = some ⟨b, off, none⟩ → b ≠ g) :
    Calls Try.prog 62 #[.pointer (some ⟨g, 0, none⟩), .slice A1 n1 c1] w (AmongP w g A n c bs K xs) := by
  have H := Lib.hid h; clear h
  have HL : Hid (xs.length = n1) := Lib.hid (by simpa using hr.1)
  have HR := Lib.hid hr
  have HG := Lib.hid hg1
  clear hr hg1
  go_enter Try.func62, Try.ntmps62
  go_wp2_with fail
  refine (pick_s w g A n c bs K H.out hK (n1 : Int) (by omega) ((n1 : Int) - 1) (by omega) (by omega)).mono ?_
  rintro e w' ⟨x, rfl, hx0, hx1, hs, hc⟩
  obtain ⟨k, rfl⟩ := Int.eq_ofNat_of_zero_le hx0
  have hk : k < n1 := by omega
  have hk' : (k : Int) < (n1 : Int) := by omega
  obtain ⟨y, hy⟩ := get_some (xs := xs) (k := k) (by rw [HL.out]; omega)
  have HY := Lib.hid (List.mem_of_getElem? hy)
  have hr' := ch_rd HR.out hc (fun _ b off e hf => HG.out b off e hf)
  obtain ⟨b, off, rfl, hlt, hcell⟩ := hr'.at_ (ints_get hy)
  have HS := Lib.hid hs; have HC := Lib.hid hc
  clear hy hr' hs hc hx1
  go_wp2_with fail
  go_ret
  exact ⟨y, rfl, HY.out, HS.out, HC.out⟩
end Go.Proofs.Ytfjlbfnjnkaooaa
