/- Texts in one file: PkA, PkE, PkT, PkF, PkG, PkS, PkU, PkH, PkJ, PkK, PkC. -/
import Derived.Test.YtadmbphefpfbmaaGreatDoorGD
import Derived.Deep.DrawnRows
import Derived.Laws.Concat
import Derived.Laws.DeepStrings4
import Derived.Test.YtadmbphefpfbmaaGreatDoorGE
import Derived.Test.YtadmbphefpfbmaaGreatDoorGG
import Derived.Deep.RegionLaw
import Derived.Test.YtadmbphefpfbmaaGreatDoorGH
import Derived.Laws.IdiomStrings
import Derived.Lib.AppendZerosOnto
import Derived.Lib.SliceRun
/- Texts of expressions of one variable, in plain Lean: their bytes and their elements. -/
namespace Go.Proofs.YtadmbphefpfbmaaGreatDoor
open Go.RowKit
set_option linter.unusedVariables false
set_option linter.unusedSimpArgs false
inductive Tx where
  | v
  | h (a : Tx)
  | t (a : Tx)
  | p (a b : Tx)
def Tx.rn : Tx → List Nat
  | .v => [48]
  | .h a => 104 :: a.rn
  | .t a => 116 :: a.rn
  | .p a b => 40 :: (a.rn ++ 46 :: (b.rn ++ [41]))
def Tx.ex : Tx → Ex
  | .v => .leaf (1, 0)
  | .h a => .un (3, 0) a.ex
  | .t a => .un (4, 0) a.ex
  | .p a b => .bin (2, 0) a.ex b.ex
abbrev Tx.els (x : Tx) : List El := x.ex.els
def Tx.deep : Tx → Nat
  | .v => 1
  | .h a => a.deep + 1
  | .t a => a.deep + 1
  | .p a b => max a.deep b.deep + 1
theorem Tx.good : ∀ x : Tx, x.ex.good
  | .v => rfl
  | .h a => ⟨rfl, a.good⟩
  | .t a => ⟨rfl, a.good⟩
  | .p a b => ⟨rfl, a.good, b.good⟩
theorem Tx.rn_pos (x : Tx) : 1 ≤ x.rn.length := by cases x <;> simp [Tx.rn]
theorem Tx.els_pos (x : Tx) : 1 ≤ x.els.length := x.ex.els_pos
theorem Tx.rn_nz : ∀ (x : Tx), ∀ c ∈ x.rn, 0 < c ∧ c < 128
  | .v, c, hc => by simp [Tx.rn] at hc; omega
  | .h a, c, hc => by
    rcases List.mem_cons.1 hc with hc | hc
    · omega
    · exact a.rn_nz c hc
  | .t a, c, hc => by
    rcases List.mem_cons.1 hc with hc | hc
    · omega
    · exact a.rn_nz c hc
  | .p a b, c, hc => by
    rcases List.mem_cons.1 hc with hc | hc
    · omega
    · rcases List.mem_append.1 hc with hc | hc
      · exact a.rn_nz c hc
      · rcases List.mem_cons.1 hc with hc | hc
        · omega
        · rcases List.mem_append.1 hc with hc | hc
          · exact b.rn_nz c hc
          · have := List.mem_singleton.1 hc; omega
theorem Tx.els_ok : ∀ x : Tx, x.els.all okEl = true
  | .v => rfl
  | .h a => by
    have h := a.els_ok
    simp only [Tx.els, Tx.ex, Ex.els, List.all_cons, Bool.and_eq_true] at *
    exact ⟨rfl, h⟩
  | .t a => by
    have h := a.els_ok
    simp only [Tx.els, Tx.ex, Ex.els, List.all_cons, Bool.and_eq_true] at *
    exact ⟨rfl, h⟩
  | .p a b => by
    have h := a.els_ok
    have h2 := b.els_ok
    simp only [Tx.els, Tx.ex, Ex.els, List.all_cons, List.all_append, Bool.and_eq_true] at *
    exact ⟨rfl, h, h2⟩
theorem Tx.wf {x : Tx} (h : x.els.length ≤ 40) : wfE x.els = true := wfE_els x.good h x.els_ok
def tPlain : Tx := .t .v
def tQuine : Tx := .h .v
def tPad : Tx := .v
def tFix : Tx := .p (.p (.h .v) (.h .v)) (.t .v)
def tMut : Tx := .p (.p (.p (.h (.h .v)) (.h .v)) (.p (.t (.h .v)) (.h .v))) (.t .v)
def tSpec : Tx := .p (.h (.h .v)) (.p (.t (.h .v)) (.t .v))
end Go.Proofs.YtadmbphefpfbmaaGreatDoor
/- The reader of programs: runes, digits, expressions of one variable (program). Printed by mk_pke.py. -/
namespace Go.Proofs.YtadmbphefpfbmaaGreatDoor
open Go.RowKit
set_option linter.unusedVariables false
set_option linter.unusedSimpArgs false
attribute [local go_sem ↓] Go.wp_at_zero Go.wp_at_succ
abbrev runesV (rs : List Nat) : List Value := rs.map (fun c : Nat => Value.int .i32 (c : Int))
theorem ch_rdP {F : Nat → Prop} {w w' : World} {A : Option Addr} {n : Nat} {vs : List Value} (h : Rd w A n vs) (hc : Ch F w w') (hd : 0 < n → ∀ b off, A = some ⟨b, off, none⟩ → ¬ F b) : Rd w' A n vs := by
  refine ⟨h.1, fun hn => ?_⟩
  obtain ⟨b, off, e, hlt, hcell⟩ := h.2 hn
  refine ⟨b, off, e, Nat.lt_of_lt_of_le hlt hc.size, fun j u hu => ?_⟩
  have h1 := hcell j u hu
  have h2 := hc.block b hlt (hd hn b off e)
  unfold World.cell? at h1 ⊢
  simp only at h1 ⊢
  rw [h2]
  exact h1
theorem Rd.tail {w : World} {b off n : Nat} {vs : List Value} (h : Rd w (some ⟨b, off, none⟩) n vs) (k : Nat) (hk : k ≤ n) : Rd w (some ⟨b, off + k, none⟩) (n - k) (vs.drop k) := by
  refine ⟨by have := h.1; simp; omega, fun hn => ?_⟩
  obtain ⟨b', off', e, hlt, hc⟩ := h.2 (by omega)
  injection e with e
  injection e with e1 e2
  subst e1 e2
  exact ⟨b, off + k, rfl, hlt, fun j u hu => by rw [Nat.add_assoc]; exact hc (k + j) u (by rwa [List.getElem?_drop] at hu)⟩
theorem run_size {P : Program} {e : TypeId} {sz : Nat} (hi : (P.info? e).map (·.size) = some sz) (w : World) : (sizeOf e).run P w = .ok sz w := by
  cases hq : P.info? e with
  | none => rw [hq] at hi; cases hi
  | some inf =>
    rw [hq] at hi
    simp at hi
    simp [sizeOf, typeInfo, hq, hi]
theorem add_plain' (b off k : Nat) : (⟨b, off, none⟩ : Addr).add k = ⟨b, off + k, none⟩ := by
  unfold Addr.add
  split
  · rename_i h; subst h; rfl
  · rfl
theorem run_cut {P : Program} {t e : TypeId} {sz : Nat} (ht : P.underlying t = some (.slice e)) (hi : (P.info? e).map (·.size) = some sz) (w : World) (b off len cap k : Nat) (i : Int) (q : IntKind) (hik : i = k) (h1 : k ≤ len) (h2 : k < cap) :
    (Instr.slice t (.slice (some ⟨b, off, none⟩) len cap) (some (.int q i)) none none).run P w = .ok (.slice (some ⟨b, off + k * sz, none⟩) (len - k) (cap - k)) w := by
  have ee : P.elem t = e := by simp [Program.elem, ht]
  subst hik
  rw [run_slice_l w t _ len cap (by rw [ee]; exact ht) q k (by omega) (by omega), ee, run_size hi w]
  simp only [Result.andThen, sliced, Option.map_some, Int.toNat_natCast, add_plain']
  rw [if_neg (by omega)]
theorem run_cut0 {P : Program} {t e : TypeId} {sz : Nat} (ht : P.underlying t = some (.slice e)) (hi : (P.info? e).map (·.size) = some sz) (w : World) (A : Option Addr) (len cap k : Nat) (i : Int) (q : IntKind) (hik : i = k) (h1 : k ≤ len) (h2 : k = cap) :
    (Instr.slice t (.slice A len cap) (some (.int q i)) none none).run P w = .ok (.slice A (len - k) (cap - k)) w := by
  have ee : P.elem t = e := by simp [Program.elem, ht]
  subst hik
  rw [run_slice_l w t _ len cap (by rw [ee]; exact ht) q k (by omega) (by omega), ee, run_size hi w]
  simp only [Result.andThen, sliced, Int.toNat_natCast]
  rw [if_pos (by omega)]
theorem szRu : (Tryz.prog.info? 21).map (·.size) = some 1 := by kernel_rfl
/-- A reader with its runes. -/
structure Rdr (w : World) (g B : Nat) (A : Option Addr) (n c : Nat) (rs : List Nat) (L : Int) : Prop where
  box : w.heap[g]? = some (.cells #[.slice A n c, .bool false, .int .i64 L] 147 (0, 0))
  rd : Rd w A n (runesV rs)
  ne : 0 < n → ∀ b off, A = some ⟨b, off, none⟩ → b ≠ g
  cap : n ≤ c
  lo : ∀ b off, 0 < n → A = some ⟨b, off, none⟩ → b < B
theorem Rdr.below {w w' : World} {g B n c : Nat} {A : Option Addr} {rs : List Nat} {L : Int} (h : Rdr w g B A n c rs L) (hb : Below w.heap.size w w') : Rdr w' g B A n c rs L := ⟨blk_bel h.box hb, h.rd.below hb (Nat.le_refl _), h.ne, h.cap, h.lo⟩
theorem Rdr.len {w : World} {g B n c : Nat} {A : Option Addr} {rs : List Nat} {L : Int} (h : Rdr w g B A n c rs L) : rs.length = n := by simpa using h.rd.1
theorem Rdr.lt {w : World} {g B n c : Nat} {A : Option Addr} {rs : List Nat} {L : Int} (h : Rdr w g B A n c rs L) : g < w.heap.size := blk_lt h.box
theorem Rdr.set {w w' : World} {g B n c : Nat} {A : Option Addr} {rs : List Nat} {L L' : Int} (h : Rdr w g B A n c rs L) (e : w' = w.setCell ⟨g, 2, none⟩ (.int .i64 L')) : Rdr w' g B A n c rs L' := by
  have hc : Ch (· = g) w w' := by rw [e]; exact ch_set _ _ _ _
  refine ⟨?_, ch_rdP h.rd hc (fun hn b off e => h.ne hn b off e), h.ne, h.cap, h.lo⟩
  rw [e]; simpa using blk_set h.box 2 (.int .i64 L')
theorem Rdr.row {w w' : World} {g B n c B' e s m : Nat} {A : Option Addr} {rs : List Nat} {L : Int} {v : Value} {vs : List Value} (h : Rdr w g B A n c rs L) (ho : w.ownsRow B' e s v m vs) (hg : w.grownBy w' v.ownBlock) (hT : 147 ≠ e) (hB : B ≤ B') : Rdr w' g B A n c rs L := by
  have hng : ¬ Fo v g := fun hf => by
    obtain ⟨cs, h1⟩ : ∃ cs, w.heap[g]? = some (.cells cs e (0, 0)) := by
      rcases ho.2 with ⟨rfl, _⟩ | ⟨k, _, cs, rfl, _, hk, _⟩
      · cases hf
      · have e1 : k = g := by simpa [Fo, Value.ownBlock] using hf
        exact ⟨cs, e1 ▸ hk⟩
    exact blk_ne h.box h1 hT rfl
  exact ⟨blk_ch h.box (ch_row hg) hng, ch_rdP h.rd (ch_row hg) (fun hn b off e hf => by have h1 := h.lo b off hn e; have h2 := (ho.lt b hf).1; omega), h.ne, h.cap, h.lo⟩
set_option maxHeartbeats 400000 in
theorem peek0_any (w : World) (g B : Nat) (A : Option Addr) (n c : Nat) (L : Int) (h : Rdr w g B A n c [] L) : Calls Tryz.prog 136 #[.pointer (some ⟨g, 0, none⟩)] w fun e w' => e = .returned (.int .i32 0) ∧ w = w' := by
  have hn : n = 0 := by have := h.len; simpa using this.symm
  subst hn
  have x0 := blk_cell h.box 0 rfl
  clear h
  go_enter Tryz.func136, Tryz.ntmps136
  go_wp2_with fail
  go_ret
  exact ⟨rfl, rfl⟩
set_option maxHeartbeats 400000 in
theorem peek_any (w : World) (g B : Nat) (A : Option Addr) (n c : Nat) (L : Int) (r : Nat) (rs : List Nat) (h : Rdr w g B A n c (r :: rs) L) : Calls Tryz.prog 136 #[.pointer (some ⟨g, 0, none⟩)] w fun e w' => e = .returned (.int .i32 (r : Int)) ∧ w = w' := by
  have hl := h.len
  obtain ⟨n, rfl⟩ : ∃ m, n = m + 1 := ⟨rs.length, by simpa using hl.symm⟩
  obtain ⟨b, off, rfl, hb, hc⟩ := h.rd.2 (by omega)
  have q0 := hc 0 _ (show (runesV (r :: rs))[0]? = some (.int .i32 (r : Int)) from rfl)
  rw [Nat.add_zero] at q0
  have x0 := blk_cell h.box 0 rfl
  clear h hc hl
  go_enter Tryz.func136, Tryz.ntmps136
  go_wp2_with fail
  go_ret
  exact ⟨rfl, rfl⟩
set_option maxHeartbeats 1000000 in
theorem take_any (w : World) (g B : Nat) (A : Option Addr) (n c : Nat) (L : Int) (r : Nat) (rs : List Nat) (h : Rdr w g B A n c (r :: rs) L) (hr : 0 < r) : Calls Tryz.prog 137 #[.pointer (some ⟨g, 0, none⟩)] w fun e w' => e = .returned (.int .i32 (r : Int)) ∧ (∃ A' n' c', Rdr w' g B A' n' c' rs L) ∧ Ch (· = g) w w' := by
  have HPK := Lib.hid (peek_any w g B A n c L r rs h)
  have hl := h.len
  obtain ⟨n, rfl⟩ : ∃ m, n = m + 1 := ⟨rs.length, by simpa using hl.symm⟩
  obtain ⟨b, off, rfl, hb, hc⟩ := h.rd.2 (by omega)
  have x0 := blk_cell h.box 0 rfl
  have f0 := blk_free h.box 0
  have hrq : ((r : Int) == 0) = false := by rw [beq_eq_false_iff_ne]; omega
  have hcap := h.cap
  have H := Lib.hid h
  have HN : Hid (rs.length = n) := Lib.hid (by simpa using hl)
  by_cases h1 : 1 < c
  · have hcut := fun (w : World) => run_cut (P := Tryz.prog) (t := 145) (e := 21) (sz := 1) Tryz.underlying145 szRu w b off (n + 1) c 1 1 .i64 rfl (by omega) h1
    clear h hc hl
    obtain ⟨w2, hw2⟩ : ∃ w2, w2 = w.setCell ⟨g, 0, none⟩ (.slice (some ⟨b, off + 1, none⟩) n (c - 1)) := ⟨_, rfl⟩
    have HC : Hid (Ch (· = g) w w2) := Lib.hid (by rw [hw2]; exact ch_set _ _ _ _)
    have HR : Hid (Rdr w2 g B (some ⟨b, off + 1, none⟩) n (c - 1) rs L) := Lib.hid (by
      have hh := H.out
      refine ⟨by rw [hw2]; simpa using blk_set hh.box 0 (.slice (some ⟨b, off + 1, none⟩) n (c - 1)), ?_, fun hn b' off' e => ?_, by omega, fun b' off' hn e => ?_⟩
      · have h5 := (ch_rdP hh.rd HC.out (fun hn b off e => hh.ne hn b off e)).tail 1 (by omega)
        simpa using h5
      · injection e with e
        injection e with e1
        rw [← e1]; exact hh.ne (by omega) b off rfl
      · injection e with e
        injection e with e1
        rw [← e1]; exact hh.lo b off (by omega) rfl)
    go_enter Tryz.func137, Tryz.ntmps137
    go_wp2_with (go_at_call 136; refine HPK.out.mono ?_; rintro e w' ⟨rfl, rfl⟩)
    go_ret
    try rw [← hw2]
    exact ⟨rfl, ⟨_, _, _, HR.out⟩, HC.out⟩
  · have hcut := fun (w : World) => run_cut0 (P := Tryz.prog) (t := 145) (e := 21) (sz := 1) Tryz.underlying145 szRu w (some ⟨b, off, none⟩) (n + 1) c 1 1 .i64 rfl (by omega) (by omega)
    have hn0 : n = 0 := by omega
    subst hn0
    clear h hc hl
    obtain ⟨w2, hw2⟩ : ∃ w2, w2 = w.setCell ⟨g, 0, none⟩ (.slice (some ⟨b, off, none⟩) 0 (c - 1)) := ⟨_, rfl⟩
    have HC : Hid (Ch (· = g) w w2) := Lib.hid (by rw [hw2]; exact ch_set _ _ _ _)
    have HR : Hid (Rdr w2 g B (some ⟨b, off, none⟩) 0 (c - 1) rs L) := Lib.hid (by
      have hh := H.out
      have e : rs = [] := List.eq_nil_of_length_eq_zero HN.out
      subst e
      exact ⟨by rw [hw2]; simpa using blk_set hh.box 0 (.slice (some ⟨b, off, none⟩) 0 (c - 1)), ⟨rfl, fun h => by omega⟩, fun hn => by omega, by omega, fun b' off' hn => by omega⟩)
    go_enter Tryz.func137, Tryz.ntmps137
    go_wp2_with (go_at_call 136; refine HPK.out.mono ?_; rintro e w' ⟨rfl, rfl⟩)
    go_ret
    try rw [← hw2]
    exact ⟨rfl, ⟨_, _, _, HR.out⟩, HC.out⟩
set_option maxHeartbeats 400000 in
theorem digit_any (w : World) (g B : Nat) (A : Option Addr) (n c : Nat) (L : Int) (rs : List Nat) (h : Rdr w g B A n c rs L) : Calls Tryz.prog 140 #[.pointer (some ⟨g, 0, none⟩), .int .i32 48] w fun e w' => e = .returned (.int .i64 0) ∧ Rdr w' g B A n c rs L ∧ Ch (· = g) w w' := by
  have x1 := blk_cell h.box 1 rfl
  have f1 := blk_free h.box 1
  obtain ⟨w2, hw2⟩ : ∃ w2, w2 = w.setCell ⟨g, 1, none⟩ (.bool false) := ⟨_, rfl⟩
  have HC : Hid (Ch (· = g) w w2) := Lib.hid (by rw [hw2]; exact ch_set _ _ _ _)
  have HR : Hid (Rdr w2 g B A n c rs L) := Lib.hid ⟨by rw [hw2]; simpa using blk_set h.box 1 (.bool false), ch_rdP h.rd HC.out (fun hn b off e => h.ne hn b off e), h.ne, h.cap, h.lo⟩
  clear h
  go_enter Tryz.func140, Tryz.ntmps140
  go_wp2_with fail
  go_ret
  try rw [← hw2]
  exact ⟨rfl, HR.out, HC.out⟩
end Go.Proofs.YtadmbphefpfbmaaGreatDoor
/- Texts of expressions of one variable (program): digits, texts. -/
namespace Go.Proofs.YtadmbphefpfbmaaGreatDoor
open Go.RowKit
set_option linter.unusedVariables false
set_option linter.unusedSimpArgs false
attribute [local go_sem ↓] Go.wp_at_zero Go.wp_at_succ
set_option maxHeartbeats 400000 in
theorem small0_any (w : World) : Calls Tryz.prog 215 #[.int .i64 0] w fun e w' => e = .returned (.string ⟨#[48]⟩) ∧ w = w' := by
  go_enter Tryz.func215, Tryz.ntmps215
  go_wp2_with fail
  go_ret
  exact ⟨rfl, rfl⟩
set_option maxHeartbeats 400000 in
theorem format0I_any (w : World) : Calls Tryz.prog 180 #[.int .i64 0, .int .i64 10] w fun e w' => e = .returned (.string ⟨#[48]⟩) ∧ w = w' := by
  go_enter Tryz.func180, Tryz.ntmps180
  go_wp2_with (go_at_call 215; refine (small0_any _).mono ?_; rintro e w' ⟨rfl, rfl⟩)
  go_ret
  exact ⟨rfl, rfl⟩
set_option maxHeartbeats 400000 in
theorem format0_any (w : World) : Calls Tryz.prog 146 #[.int .i64 0, .int .i64 10] w fun e w' => e = .returned (.string ⟨#[48]⟩) ∧ w = w' := by
  go_enter Tryz.func146, Tryz.ntmps146
  go_wp2_with (go_at_call 180; refine (format0I_any _).mono ?_; rintro e w' ⟨rfl, rfl⟩)
  go_ret
  exact ⟨rfl, rfl⟩
set_option maxHeartbeats 400000 in
theorem decimal0_any (w : World) : Calls Tryz.prog 104 #[.int .i64 0] w fun e w' => e = .returned (.string ⟨#[48]⟩) ∧ w = w' := by
  go_enter Tryz.func104, Tryz.ntmps104
  go_wp2_with (go_at_call 146; refine (format0_any _).mono ?_; rintro e w' ⟨rfl, rfl⟩)
  go_ret
  exact ⟨rfl, rfl⟩
def Tx.bs : Tx → ByteArray
  | .v => ⟨#[48]⟩
  | .h a => ⟨#[104]⟩ ++ a.bs
  | .t a => ⟨#[116]⟩ ++ a.bs
  | .p a b => (((⟨#[40]⟩ ++ a.bs) ++ ⟨#[46]⟩) ++ b.bs) ++ ⟨#[41]⟩
def Tx.kids : Tx → List Tx
  | .v => []
  | .h a => [a]
  | .t a => [a]
  | .p a b => [a, b]
theorem Tx.kids_ops (x : Tx) : x.ex.ops = x.kids.map Tx.ex := by cases x <;> rfl
theorem Tx.bs_size : ∀ x : Tx, x.bs.size ≤ 5 * x.els.length
  | .v => by simp [Tx.bs, Tx.els, Tx.ex, Ex.els, ByteArray.size]
  | .h a => by
    have h := a.bs_size
    simp only [Tx.bs, Tx.els, Tx.ex, Ex.els, List.length_cons, ByteArray.size_append', ByteArray.size_mk'] at *
    simp; omega
  | .t a => by
    have h := a.bs_size
    simp only [Tx.bs, Tx.els, Tx.ex, Ex.els, List.length_cons, ByteArray.size_append', ByteArray.size_mk'] at *
    simp; omega
  | .p a b => by
    have h := a.bs_size
    have h2 := b.bs_size
    simp only [Tx.bs, Tx.els, Tx.ex, Ex.els, List.length_cons, List.length_append, ByteArray.size_append', ByteArray.size_mk'] at *
    simp; omega
theorem infoStr : (Tryz.prog.info? 9).map (fun i => (i.zero, i.size, i.bytes)) = some (some (.string ⟨#[]⟩), 1, 16) := by kernel_rfl
theorem eltStr : Elt Tryz.prog 47 9 (.string ⟨#[]⟩) := Elt.mk_ Tryz.underlying47 infoStr rfl (by decide)
def TxtP (w : World) (x : Tx) (e : Ending) (w' : World) : Prop := e = .returned (.string x.bs) ∧ Below w.heap.size w w'
abbrev strsV (ts : List Tx) : List Value := ts.map (fun t => Value.string t.bs)
theorem kids_le {x y : Tx} (h : y ∈ x.kids) : y.els.length ≤ x.els.length := by
  cases x with
  | v => simp [Tx.kids] at h
  | h a => simp only [Tx.kids, List.mem_singleton] at h; subst h; simp [Tx.els, Tx.ex, Ex.els]
  | t a => simp only [Tx.kids, List.mem_singleton] at h; subst h; simp [Tx.els, Tx.ex, Ex.els]
  | p a b =>
    simp only [Tx.kids, List.mem_cons, List.not_mem_nil, or_false] at h
    rcases h with rfl | rfl <;> simp [Tx.els, Tx.ex, Ex.els] <;> omega
/-- A row of one element type grows: the blocks that change are of that type, or new. -/
theorem chT_grow {w2 w4 w5 : World} {T B s n : Nat} {v : Value} {vs : List Value} (h : Ch (fun q => ∃ cs, w2.heap[q]? = some (.cells cs T (0, 0))) w2 w4) (ho : w4.ownsRow B T s v n vs) (hg : w4.grownBy w5 v.ownBlock) : Ch (fun q => ∃ cs, w2.heap[q]? = some (.cells cs T (0, 0))) w2 w5 :=
  ⟨hg.os.trans h.os, hg.tape.trans h.tape, hg.output.trans h.output, Nat.le_trans h.size hg.size, fun q hq hn => by
    have e1 := h.block q hq hn
    have hb : ¬ v.ownBlock = some q := fun hb => by
      rcases ho.2 with ⟨rfl, _⟩ | ⟨k, _, cs, rfl, _, hk, _⟩
      · cases hb
      · have e2 : k = q := by simpa [Value.ownBlock] using hb
        subst e2
        exact hn ⟨cs, e1.symm.trans hk⟩
    exact (hg.block q (Nat.lt_of_lt_of_le hq h.size) (fun e => hb e.symm)).trans e1⟩
def OpPostS (w00 w : World) (x : Ex) (e : Ending) (w' : World) : Prop := ∃ (A : Option Addr) (c : Nat) (vs : List Value), e = .returned (.slice A x.ops.length c) ∧ w'.ownsRow w.heap.size 42 1 (.slice A x.ops.length c) x.ops.length vs ∧ PartsOk w00 vs x.ops ∧ Below w.heap.size w w'
set_option maxHeartbeats 2000000 in
theorem operandsS_any (w00 w : World) (hb00 : Below w00.heap.size w00 w) (A : Option Addr) (n c : Nat) (x : Ex) (hg : x.good) (hr0 : RdE w00 A n x.els) (hn : n ≤ 1000000000) (hnc : n ≤ c) : Calls Tryz.prog 103 #[.slice A n c] w (OpPostS w00 w x) := by
  have hr := hr0.below hb00 (Nat.le_refl _)
  have HR0 := Lib.hid hr0
  have HL : Hid (x.els.length = n) := Lib.hid (rdE_len hr)
  clear hr0 hb00
  have hpos := x.els_pos
  rw [HL.out] at hpos
  obtain ⟨b, off, rfl, hbs, q0, q1⟩ := rdE hr x.els_top
  have HN := Lib.hid (x.ops_len hg)
  have HG := Lib.hid hg
  have hf := fol_le x.top
  generalize hop : x.top = tp at *
  have HT := Lib.hid hop
  clear hop hg
  obtain ⟨k, v⟩ := tp
  simp only [Nat.zero_mul, Nat.add_zero] at q0 q1
  have hlit := own_lit w #[] 0 42 rfl (by omega)
  have hbb := below_new w (.cells #[] 42)
  have HR := Lib.hid hr
  clear hr
  generalize hfx : fol (k, v) = m at *
  have HM := Lib.hid hfx
  clear hfx
  go_enter Tryz.func103, Tryz.ntmps103
  go_wp2_with (go_at_call 144; go_must (refine (exprFollow_any _ _ _).mono ?_; rintro e w2 ⟨rfl, hb2⟩; rw [HM.out]))
  have hown2 := own_below hlit hb2 (Nat.le_refl _)
  have hB2 := hbb.trans (hb2.mono hbb.size)
  clear hlit hbb q0 q1 hb2
  go_loopw [3, 4, 11] (fun p f q wr => ∃ (i : Nat) (A : Option Addr) (c' : Nat) (vs : List Value), i ≤ m ∧ q = .int .i64 i ∧ f = .int .i64 (opPos x i) ∧ p = .slice A i c' ∧ wr.ownsRow w.heap.size 42 1 (.slice A i c') i vs ∧ PartsOk w00 vs (x.ops.take i) ∧ Below w.heap.size w wr) (fun _ _ q _ => m - (intOf q).toNat)
  case atStart => exact ⟨0, _, _, [], by omega, rfl, rfl, rfl, hown2, ⟨by simp, by simp⟩, hB2⟩
  case round =>
    clear hown2 hB2
    obtain ⟨i, A, c', vs, hi, rfl, rfl, rfl, hown, hp, hb⟩ := hrel
    by_cases hlt : i < m
    · have hlt' : (i : Int) < (m : Int) := by omega
      obtain ⟨y, hy⟩ := get_some (xs := x.ops) (k := i) (by rw [HN.out]; exact hlt)
      have HE := Lib.hid (opPos_end HG.out hy)
      have HNX := Lib.hid (opPos_next hy)
      have hpn : opPos x i < opPos x (i + 1) := by have := HNX.out; have := y.els_pos; omega
      have hpl : opPos x (i + 1) ≤ n := by have := opPos_le x (i + 1); rw [HL.out] at this; exact this
      have HC := Lib.hid (by have h := rdE_cut HR0.out (i := opPos x i) (j := opPos x (i + 1)) (by omega) hpl; rw [opPos_cut hy] at h; exact h)
      have HY : Hid (x.ops.take (i + 1) = x.ops.take i ++ [y]) := Lib.hid (by rw [List.take_add_one, hy]; rfl)
      have hr' := HR.out.below hb (Nat.le_refl _)
      clear hy
      generalize hp1 : opPos x i = p1 at *
      generalize hp2 : opPos x (i + 1) = p2 at *
      have HP2 := Lib.hid hp2
      have HP1 := Lib.hid hp1
      clear hp1 hp2
      go_wp2_with fail
      refine (termEndE_any _ _ _ _ _ hr' hn p1 (by omega)).mono ?_
      rw [HE.out]
      rintro e w3 ⟨rfl, hb3⟩
      have hown3 := own_below hown hb3 (Nat.le_refl _)
      have hB3 := hb.trans (hb3.mono hb.size)
      clear hown hb hb3 hr'
      have g1 : (p1 : Int) ≤ (p2 : Int) := by omega
      have g2 : (p2 : Int) ≤ (c : Int) := by omega
      have g3 : ¬ (c = p1) := by omega
      go_wp2_with (at_builtin; go_must (refine wpList_app1g eltXS rfl _ _ rfl w3 w.heap.size _ i _ (by rfl) hown3 _ (by rfl) (by rfl) hB3.size (by omega) ?_; rintro A4 c4 w4 hown4 hb4 hg4))
      go_roundw
      case rel => exact ⟨i + 1, A4, c4, _, by omega, by go_num, by rw [HP2.out], rfl, hown4, by rw [HY.out]; exact hp.snoc (by omega) HC.out, hB3.trans hb4⟩
      case measure => simp [intOf]; omega
    · obtain rfl : i = m := by omega
      go_wp2_with fail
      go_ret
      have hb' : Below w.heap.size w wr := hb
      refine ⟨A, c', vs, ?_, ?_, ?_, hb⟩
      · rw [HN.out]; rfl
      · rw [HN.out]; exact hown
      · rw [List.take_of_length_le (by rw [HN.out]; omega)] at hp; exact hp
theorem own_foP {w : World} {base e s n : Nat} {v : Value} {vs : List Value} (h : w.ownsRow base e s v n vs) {k : Nat} (hk : Fo v k) : ∃ cs, w.heap[k]? = some (.cells cs e (0, 0)) := by
  rcases h.2 with ⟨rfl, _⟩ | ⟨g, _, cs, rfl, _, hg, _⟩
  · cases hk
  · have e1 : g = k := by simpa [Fo, Value.ownBlock] using hk
    exact ⟨cs, e1 ▸ hg⟩
theorem bqcP {a V W : World} (hc : Below V.heap.size V W) (h : Below a.heap.size a V) : Below a.heap.size a W := h.trans (hc.mono h.size)
set_option maxHeartbeats 8000000 in
set_option maxRecDepth 100000 in
theorem exprText_step (x : Tx) (ih : ∀ y ∈ x.kids, ∀ (w : World) (A : Option Addr) (n c : Nat), RdE w A n y.els → n ≤ 1000 → n ≤ c → Calls Tryz.prog 66 #[.slice A n c] w (TxtP w y))
    (w : World) (A : Option Addr) (n c : Nat) (hr : RdE w A n x.els) (hn : n ≤ 1000) (hnc : n ≤ c) : Calls Tryz.prog 66 #[.slice A n c] w (TxtP w x) := by
  have hl := rdE_len hr
  have HIH := Lib.hid ih
  obtain ⟨w1, hw1⟩ : ∃ w1, w1 = w.alloc (.cells #[] 9) := ⟨_, rfl⟩
  have hb1 : Below w.heap.size w w1 := by rw [hw1]; exact below_new _ _
  have HB1 := Lib.hid hb1
  have HO1 : Hid (w1.ownsRow w.heap.size 9 1 (.slice (some ⟨w.heap.size, 0, none⟩) 0 0) 0 []) := Lib.hid (by rw [hw1]; exact own_lit w #[] 0 9 rfl (by omega))
  have hop := operandsS_any w w1 hb1 A n c x.ex x.good hr (by omega) hnc
  unfold OpPostS at hop
  rw [x.kids_ops] at hop
  have HOP := Lib.hid hop
  clear hop
  have HK : Hid (x.ex.ops.length = x.kids.length) := Lib.hid (by rw [x.kids_ops, List.length_map])
  have HR := Lib.hid hr; have HL := Lib.hid hl; have HN := Lib.hid hn
  obtain ⟨M, hM⟩ : ∃ M, M = x.kids.length := ⟨_, rfl⟩
  have HM := Lib.hid hM
  have HMB : Hid (M ≤ 2) := Lib.hid (by rw [hM]; cases x <;> simp [Tx.kids])
  clear ih hr hl hb1 hM hnc
  go_enter Tryz.func66, Tryz.ntmps66
  go_upto_region 2 with fail
  rw [← hw1]
  clear hw1
  go_wp2_with (go_at_call 103
               refine HOP.out.mono ?_
               rintro e w2 ⟨A2, c2, vs, rfl, ho2, hp2, hb2⟩
               rw [List.length_map, ← HM.out] at ho2 ⊢
               have HO2 := Lib.hid ho2
               have HP2 := Lib.hid hp2
               have HQ2 := Lib.hid (own_below HO1.out hb2 (Nat.le_refl _))
               have HB2 : Hid (Below w.heap.size w w2) := Lib.hid (HB1.out.trans (hb2.mono HB1.out.size))
               clear ho2 hp2 hb2 HOP)
  go_loopw [3, 10] (fun v q wr => ∃ (k : Nat) (A3 : Option Addr) (c3 : Nat), k ≤ M ∧ q = .int .i64 k ∧ v = .slice A3 k c3 ∧ Hid (wr.ownsRow w.heap.size 9 1 (.slice A3 k c3) k (strsV (x.kids.take k))) ∧ Hid (Ch (fun q => ∃ cs, w2.heap[q]? = some (.cells cs 9 (0, 0))) w2 wr) ∧ Hid (Below w.heap.size w wr)) (fun _ q _ => M - (intOf q).toNat)
  case atStart => exact ⟨0, _, _, Nat.zero_le _, by go_num, rfl, Lib.hid (by simpa using HQ2.out), Lib.hid (Ch.refl _ _), HB2⟩
  case round =>
    obtain ⟨k, A3, c3, hk, rfl, rfl, HO, HC, HB⟩ := hrel
    by_cases hlt : k < M
    · skip
      obtain ⟨y, hy⟩ := get_some (xs := x.kids) (k := k) (by rw [← HM.out]; exact hlt)
      obtain ⟨v, hv⟩ := get_some (xs := vs) (k := k) (by rw [HP2.out.1, List.length_map, ← HM.out]; exact hlt)
      obtain ⟨Ay, my, cy, rfl, hmc, hry⟩ := HP2.out.2 k v y.ex hv (by rw [List.getElem?_map, hy]; rfl)
      obtain ⟨b, off, rfl, hbl, q0⟩ := (own_rd (own_ch HO2.out HC.out (fun q hq ⟨cs, e⟩ => by
        obtain ⟨ds, h1⟩ := own_foP HO2.out hq
        exact blk_ne h1 e (by decide) rfl))).at_ hv
      have hmy : my ≤ 1000 := by
        have h1 := rdE_len hry
        have h2 := kids_le (List.mem_of_getElem? hy)
        have h3 := HL.out
        have h4 := HN.out
        have h5 : y.ex.els.length = y.els.length := rfl
        omega
      have HI := Lib.hid (HIH.out y (List.mem_of_getElem? hy) wr Ay my cy (hry.below HB.out (Nat.le_refl _)) hmy hmc)
      have HS : Hid (strsV (x.kids.take (k + 1)) = strsV (x.kids.take k) ++ [.string y.bs]) := Lib.hid (by rw [List.take_add_one, hy]; simp)
      have hlt' : (k : Int) < (M : Int) := by omega
      have hk0 : (0 : Int) ≤ (k : Int) := by omega
      have hmb := HMB.out
      have HKN : Hid (k ≤ 1099511627776) := Lib.hid (by have := HMB.out; omega)
      clear hy hv hry hmc hmy
      go_wp2_with (first
        | (go_at_call 66
           refine HI.out.mono ?_
           rintro e w4 ⟨rfl, hb4⟩
           have HO4 := Lib.hid (own_below HO.out hb4 (Nat.le_refl _))
           have HB4 : Hid (Below w.heap.size w w4) := Lib.hid (bqcP hb4 HB.out)
           have HC4 := Lib.hid (HC.out.trans (ch_below hb4))
           have HZ4 : Hid (w.heap.size ≤ w4.heap.size) := Lib.hid HB4.out.size
           clear hb4)
        | (at_builtin; go_must (refine wpList_app1g eltStr rfl _ _ rfl w4 w.heap.size _ k _ (by rfl) HO4.out _ (by rfl) (by rfl) HZ4.out HKN.out ?_); rintro A5 c5 w5 ho5 hb5 hg5
           have HO5 := Lib.hid ho5
           have HB5 : Hid (Below w.heap.size w w5) := Lib.hid (HB4.out.trans hb5)
           have HC5 := Lib.hid (chT_grow HC4.out HO4.out hg5)
           clear ho5 hb5 hg5))
      go_roundw
      case rel => exact ⟨k + 1, A5, c5, by omega, by go_num, rfl, Lib.hid (by rw [HS.out]; exact HO5.out), HC5, HB5⟩
      case measure => simp [intOf]; omega
    · skip
      have hkM : k = M := by omega
      subst hkM
      have hE : x.kids.take k = x.kids := List.take_of_length_le (by rw [← HM.out]; omega)
      have ho := HO.out
      rw [hE] at ho
      have HO9 := Lib.hid ho
      have hre := HR.out.below HB.out (Nat.le_refl _)
      have HS := Lib.hid x.bs_size
      have HM2 : Hid (x.kids.length = k) := Lib.hid HM.out.symm
      clear ho hE HO HIH HP2 HO2 HQ2 HK
      cases x with
      | v =>
        skip
        obtain ⟨b, off, rfl, hbl, q0, q1⟩ := rdE hre (x := (1, 0)) (k := 0) rfl
        have hl0 : (0 : Int) < (n : Int) := by have := HL.out; simp [Tx.els, Tx.ex, Ex.els] at this; omega
        have hl1 : 0 < n := by omega
        simp only [Nat.zero_mul, Nat.add_zero] at q0 q1
        clear hre
        go_wp2_with (go_at_call 104; refine (decimal0_any _).mono ?_; rintro e w' ⟨rfl, rfl⟩)
        go_ret
        exact ⟨rfl, HB.out⟩
      | h a =>
        skip
        have hk1 : k = 1 := by have := HM2.out; simp [Tx.kids] at this; omega
        subst hk1
        obtain ⟨b, off, rfl, hbl, q0, q1⟩ := rdE hre (x := (3, 0)) (k := 0) rfl
        have hl0 : (0 : Int) < (n : Int) := by have := HL.out; simp [Tx.els, Tx.ex, Ex.els] at this; omega
        have hl1 : 0 < n := by omega
        simp only [Nat.zero_mul, Nat.add_zero] at q0 q1
        obtain ⟨g, rfl, -, -, t0, -⟩ := own_get HO9.out (k := 0) (u := .string a.bs) rfl
        have hs : a.bs.size ≤ 100000 := by
          have h1 := HS.out; have h2 := HL.out; have h3 := HN.out
          simp only [Tx.bs, ByteArray.size_append', ByteArray.size_mk'] at h1
          simp at h1
          omega
        have hsz : ¬ (1 + a.bs.size > 9223372036854775807) := by omega
        clear hre HO9 HS
        go_wp2_with fail
        go_ret
        exact ⟨rfl, HB.out⟩
      | t a =>
        skip
        have hk1 : k = 1 := by have := HM2.out; simp [Tx.kids] at this; omega
        subst hk1
        obtain ⟨b, off, rfl, hbl, q0, q1⟩ := rdE hre (x := (4, 0)) (k := 0) rfl
        have hl0 : (0 : Int) < (n : Int) := by have := HL.out; simp [Tx.els, Tx.ex, Ex.els] at this; omega
        have hl1 : 0 < n := by omega
        simp only [Nat.zero_mul, Nat.add_zero] at q0 q1
        obtain ⟨g, rfl, -, -, t0, -⟩ := own_get HO9.out (k := 0) (u := .string a.bs) rfl
        have hs : a.bs.size ≤ 100000 := by
          have h1 := HS.out; have h2 := HL.out; have h3 := HN.out
          simp only [Tx.bs, ByteArray.size_append', ByteArray.size_mk'] at h1
          simp at h1
          omega
        have hsz : ¬ (1 + a.bs.size > 9223372036854775807) := by omega
        clear hre HO9 HS
        go_wp2_with fail
        go_ret
        exact ⟨rfl, HB.out⟩
      | p a b' =>
        skip
        have hk1 : k = 2 := by have := HM2.out; simp [Tx.kids] at this; omega
        subst hk1
        obtain ⟨b, off, rfl, hbl, q0, q1⟩ := rdE hre (x := (2, 0)) (k := 0) rfl
        have hl0 : (0 : Int) < (n : Int) := by have := HL.out; simp [Tx.els, Tx.ex, Ex.els] at this; omega
        have hl1 : 0 < n := by omega
        simp only [Nat.zero_mul, Nat.add_zero] at q0 q1
        obtain ⟨g, rfl, -, -, t0, -⟩ := own_get HO9.out (k := 0) (u := .string a.bs) rfl
        obtain ⟨g', hg', -, -, t1, -⟩ := own_get HO9.out (k := 1) (u := .string b'.bs) rfl
        injection hg' with hg'
        injection hg' with hg'
        subst hg'
        have hs : a.bs.size ≤ 100000 ∧ b'.bs.size ≤ 100000 := by
          have h1 := HS.out; have h2 := HL.out; have h3 := HN.out
          simp only [Tx.bs, ByteArray.size_append', ByteArray.size_mk'] at h1
          simp at h1
          omega
        obtain ⟨hs1, hs2⟩ := hs
        clear hre HO9 HS
        go_wp2_with fail
        go_quiet (fail)
        go_wp2_with fail
        go_ret
        exact ⟨rfl, below_drewN HB.out⟩
theorem exprText_any (x : Tx) : ∀ (w : World) (A : Option Addr) (n c : Nat), RdE w A n x.els → n ≤ 1000 → n ≤ c → Calls Tryz.prog 66 #[.slice A n c] w (TxtP w x) := by
  induction x with
  | v => intro w A n c hr hn hnc; exact exprText_step .v (by simp [Tx.kids]) w A n c hr hn hnc
  | h a ih => intro w A n c hr hn hnc; exact exprText_step (.h a) (by intro y hy; simp only [Tx.kids, List.mem_singleton] at hy; subst hy; exact ih) w A n c hr hn hnc
  | t a ih => intro w A n c hr hn hnc; exact exprText_step (.t a) (by intro y hy; simp only [Tx.kids, List.mem_singleton] at hy; subst hy; exact ih) w A n c hr hn hnc
  | p a b iha ihb => intro w A n c hr hn hnc; exact exprText_step (.p a b) (by intro y hy; simp only [Tx.kids, List.mem_cons, List.not_mem_nil, or_false] at hy; rcases hy with rfl | rfl; exact iha; exact ihb) w A n c hr hn hnc
end Go.Proofs.YtadmbphefpfbmaaGreatDoor
/- The reader of programs: expressions of one variable (program). Printed by mk_pkf.py. -/
namespace Go.Proofs.YtadmbphefpfbmaaGreatDoor
open Go.RowKit
set_option linter.unusedVariables false
set_option linter.unusedSimpArgs false
attribute [local go_sem ↓] Go.wp_at_zero Go.wp_at_succ
theorem lit_elV (w : World) : (w.alloc (.cells #[.int .i64 1, .int .i64 0] 110)).ownsRow w.heap.size 110 2 (.slice (some ⟨w.heap.size, 0, none⟩) 1 1) 1 (ints (eNums [(1, 0)])) := lit_el w 1
def ExP (w : World) (g B : Nat) (x : Tx) (rest : List Nat) (L : Int) (e : Ending) (w' : World) : Prop :=
  ∃ A2 c2 A' n' c', e = .returned (.slice A2 x.els.length c2) ∧ w'.ownsRow w.heap.size 110 2 (.slice A2 x.els.length c2) x.els.length (ints (eNums x.els)) ∧ Rdr w' g B A' n' c' rest (L - (x.els.length : Int)) ∧ Ch (· = g) w w'
set_option maxHeartbeats 8000000 in
set_option maxRecDepth 100000 in
theorem expr_any (x : Tx) : ∀ (w : World) (g B : Nat) (A : Option Addr) (n c : Nat) (rest : List Nat) (L : Int), Rdr w g B A n c (x.rn ++ rest) L → (x.els.length : Int) ≤ L → L ≤ 100000 → B ≤ w.heap.size → Calls Tryz.prog 138 #[.pointer (some ⟨g, 0, none⟩)] w (ExP w g B x rest L) := by
  induction x with
  | v =>
    intro w g B A n c rest L h hL hL2 hB
    have H0 : Hid (Rdr w g B A n c (48 :: rest) L) := Lib.hid (by have h9 := h; simp only [Tx.rn, List.cons_append, List.append_assoc, List.nil_append, List.singleton_append] at h9; exact h9)
    obtain ⟨w1, hw1⟩ : ∃ w1, w1 = w.setCell ⟨g, 2, none⟩ (.int .i64 (L - 1)) := ⟨_, rfl⟩
    have HC1 : Hid (Ch (· = g) w w1) := Lib.hid (by rw [hw1]; exact ch_set _ _ _ _)
    have HR1 := Lib.hid (H0.out.set hw1)
    have HT := Lib.hid (take_any w1 g B _ _ _ _ _ _ HR1.out (by decide))
    have x2 := blk_cell H0.out.box 2 rfl
    have f2 := blk_free H0.out.box 2
    have HLL : Hid (1 ≤ L ∧ L ≤ 100000) := Lib.hid (by simp only [Tx.els, Tx.ex, Ex.els, List.length_cons, List.length_append, List.length_nil] at hL; omega)
    have hwr : IntKind.i64.wrap (L - 1) = L - 1 := IntWalk.i64_in _ (by have := HLL.out; omega)
    have HEL := Lib.hid hL
    clear h hL hL2
    go_enter Tryz.func138, Tryz.ntmps138
    go_upto_region 2 with fail
    rw [← hw1]
    clear hw1 x2 f2 hwr
    have x1 := blk_cell HR1.out.box 1 rfl
    have x2 := blk_cell HR1.out.box 2 rfl
    have hd : decide (L - 1 < 0) = false := decide_eq_false (by have := HLL.out; omega)
    have hd2 : ¬ (L - 1 < 0) := by have := HLL.out; omega
    have hd3 : 0 ≤ L - 1 := by have := HLL.out; omega
    go_upto_region 6 with (go_at_call 137
                           refine HT.out.mono ?_
                           rintro e w2 ⟨rfl, ⟨A2, n2, c2, hr2⟩, hc2⟩
                           have HR2 := Lib.hid hr2
                           have HC2 : Hid (Ch (· = g) w w2) := Lib.hid (HC1.out.trans hc2)
                           clear hr2 hc2)
    clear x1 x2 hd hd2 hd3
    have HS2 : Hid (B ≤ w2.heap.size) := Lib.hid (Nat.le_trans hB HC2.out.size)
    have HGL : Hid (g < w.heap.size) := Lib.hid H0.out.lt
    have HD := Lib.hid (digit_any w2 g B A2 n2 c2 (L - 1) rest HR2.out)
    go_wp2_with (go_at_call 140
                 refine HD.out.mono ?_
                 rintro e w3 ⟨rfl, hr3, hc3⟩
                 have HR3 := Lib.hid hr3
                 have HC3 : Hid (Ch (· = g) w w3) := Lib.hid (HC2.out.trans hc3)
                 clear hr3 hc3)
    go_ret
    exact ⟨_, _, _, _, _, rfl, ownN_base (lit_elV w3) HC3.out.size, HR3.out.below (below_new _ _), HC3.out.trans (ch_below (below_new _ _))⟩
  | h a ih =>
    intro w g B A n c rest L h hL hL2 hB
    have H0 : Hid (Rdr w g B A n c (104 :: (a.rn ++ rest)) L) := Lib.hid (by have h9 := h; simp only [Tx.rn, List.cons_append, List.append_assoc, List.nil_append, List.singleton_append] at h9; exact h9)
    obtain ⟨w1, hw1⟩ : ∃ w1, w1 = w.setCell ⟨g, 2, none⟩ (.int .i64 (L - 1)) := ⟨_, rfl⟩
    have HC1 : Hid (Ch (· = g) w w1) := Lib.hid (by rw [hw1]; exact ch_set _ _ _ _)
    have HR1 := Lib.hid (H0.out.set hw1)
    have HT := Lib.hid (take_any w1 g B _ _ _ _ _ _ HR1.out (by decide))
    have x2 := blk_cell H0.out.box 2 rfl
    have f2 := blk_free H0.out.box 2
    have HLL : Hid (1 ≤ L ∧ L ≤ 100000) := Lib.hid (by simp only [Tx.els, Tx.ex, Ex.els, List.length_cons, List.length_append, List.length_nil] at hL; omega)
    have hwr : IntKind.i64.wrap (L - 1) = L - 1 := IntWalk.i64_in _ (by have := HLL.out; omega)
    have HEL := Lib.hid hL
    clear h hL hL2
    go_enter Tryz.func138, Tryz.ntmps138
    go_upto_region 2 with fail
    rw [← hw1]
    clear hw1 x2 f2 hwr
    have x1 := blk_cell HR1.out.box 1 rfl
    have x2 := blk_cell HR1.out.box 2 rfl
    have hd : decide (L - 1 < 0) = false := decide_eq_false (by have := HLL.out; omega)
    have hd2 : ¬ (L - 1 < 0) := by have := HLL.out; omega
    have hd3 : 0 ≤ L - 1 := by have := HLL.out; omega
    go_upto_region 6 with (go_at_call 137
                           refine HT.out.mono ?_
                           rintro e w2 ⟨rfl, ⟨A2, n2, c2, hr2⟩, hc2⟩
                           have HR2 := Lib.hid hr2
                           have HC2 : Hid (Ch (· = g) w w2) := Lib.hid (HC1.out.trans hc2)
                           clear hr2 hc2)
    clear x1 x2 hd hd2 hd3
    have HS2 : Hid (B ≤ w2.heap.size) := Lib.hid (Nat.le_trans hB HC2.out.size)
    have HGL : Hid (g < w.heap.size) := Lib.hid H0.out.lt
    obtain ⟨w3, hw3⟩ : ∃ w3, w3 = w2.alloc (.cells #[.int .i64 3, .int .i64 0] 110) := ⟨_, rfl⟩
    have hb3 : Below w2.heap.size w2 w3 := by rw [hw3]; exact below_new _ _
    have HB3 := Lib.hid hb3
    have HLT : Hid (w3.ownsRow w2.heap.size 110 2 (.slice (some ⟨w2.heap.size, 0, none⟩) 1 1) 1 (ints (eNums [(3, 0)]))) := Lib.hid (by rw [hw3]; exact lit_el w2 3)
    have HI := Lib.hid (ih w3 g B A2 n2 c2 rest (L - 1) (HR2.out.below hb3) (by have h9 := HEL.out; simp only [Tx.els, Tx.ex, Ex.els, List.length_cons] at h9 ⊢; omega) (by have := HLL.out; omega) (Nat.le_trans HS2.out hb3.size))
    have HLN : Hid (1 + a.els.length ≤ 1099511627776) := Lib.hid (by have h8 := HLL.out; have h9 := HEL.out; simp only [Tx.els, Tx.ex, Ex.els, List.length_cons] at h9 ⊢; omega)
    clear hb3 ih
    go_wp2_with (first
      | (go_at_call 138
         try rw [← hw3]
         refine HI.out.mono ?_
         rintro e w4 ⟨A4, c4, A5, n5, c5, rfl, ho4, hr4, hc4⟩
         have HO4 := Lib.hid (ownN_rd ho4)
         have HR4 := Lib.hid hr4
         have HC4 : Hid (Ch (· = g) w w4) := Lib.hid ((HC2.out.trans (ch_below HB3.out)).trans hc4)
         have HL4 := Lib.hid (own_ch HLT.out hc4 (fun q hq e => by
           have h1 := (HLT.out.lt q hq).1
           have h2 := HGL.out
           have h3 := HC2.out.size
           have e2 : q = g := e
           omega))
         have HZ4 : Hid (w2.heap.size ≤ w4.heap.size) := Lib.hid (Nat.le_trans HB3.out.size hc4.size)
         clear ho4 hr4 hc4)
      | (at_builtin; go_must (refine wpList_appSN eltEl rfl _ _ rfl w4 w2.heap.size _ 1 _ (by rfl) HL4.out A4 a.els.length c4 _ (by rfl) HO4.out (ints_one1 _) HZ4.out HLN.out ?_); rintro A6 c6 w6 ho6 hb6 hg6
         have HO6 := Lib.hid ho6
         have HR6 := Lib.hid (HR4.out.row HL4.out hg6 (by decide) HS2.out)
         have HC6 : Hid (Ch (· = g) w w6) := Lib.hid ⟨hg6.os.trans HC4.out.os, hg6.tape.trans HC4.out.tape, hg6.output.trans HC4.out.output, Nat.le_trans HC4.out.size hg6.size, fun q hq hn => (hg6.block q (Nat.lt_of_lt_of_le hq HC4.out.size) (fun e => by have h1 := (HL4.out.lt q e.symm).1; have h2 := HC2.out.size; omega)).trans (HC4.out.block q hq hn)⟩
         clear ho6 hb6 hg6))
    go_ret
    have e1 : (1 + a.els.length) = (Tx.h a).els.length := by simp only [Tx.els, Tx.ex, Ex.els, List.length_cons]; omega
    have h6 := HO6.out
    have h7 := HR6.out
    rw [app_nums'] at h6
    rw [show L - 1 - (a.els.length : Int) = L - (((Tx.h a).els.length : Nat) : Int) by rw [← e1]; omega] at h7
    rw [e1] at h6 ⊢
    exact ⟨A6, c6, A5, n5, c5, rfl, ownN_base h6 HC2.out.size, h7, HC6.out⟩
  | t a ih =>
    intro w g B A n c rest L h hL hL2 hB
    have H0 : Hid (Rdr w g B A n c (116 :: (a.rn ++ rest)) L) := Lib.hid (by have h9 := h; simp only [Tx.rn, List.cons_append, List.append_assoc, List.nil_append, List.singleton_append] at h9; exact h9)
    obtain ⟨w1, hw1⟩ : ∃ w1, w1 = w.setCell ⟨g, 2, none⟩ (.int .i64 (L - 1)) := ⟨_, rfl⟩
    have HC1 : Hid (Ch (· = g) w w1) := Lib.hid (by rw [hw1]; exact ch_set _ _ _ _)
    have HR1 := Lib.hid (H0.out.set hw1)
    have HT := Lib.hid (take_any w1 g B _ _ _ _ _ _ HR1.out (by decide))
    have x2 := blk_cell H0.out.box 2 rfl
    have f2 := blk_free H0.out.box 2
    have HLL : Hid (1 ≤ L ∧ L ≤ 100000) := Lib.hid (by simp only [Tx.els, Tx.ex, Ex.els, List.length_cons, List.length_append, List.length_nil] at hL; omega)
    have hwr : IntKind.i64.wrap (L - 1) = L - 1 := IntWalk.i64_in _ (by have := HLL.out; omega)
    have HEL := Lib.hid hL
    clear h hL hL2
    go_enter Tryz.func138, Tryz.ntmps138
    go_upto_region 2 with fail
    rw [← hw1]
    clear hw1 x2 f2 hwr
    have x1 := blk_cell HR1.out.box 1 rfl
    have x2 := blk_cell HR1.out.box 2 rfl
    have hd : decide (L - 1 < 0) = false := decide_eq_false (by have := HLL.out; omega)
    have hd2 : ¬ (L - 1 < 0) := by have := HLL.out; omega
    have hd3 : 0 ≤ L - 1 := by have := HLL.out; omega
    go_upto_region 6 with (go_at_call 137
                           refine HT.out.mono ?_
                           rintro e w2 ⟨rfl, ⟨A2, n2, c2, hr2⟩, hc2⟩
                           have HR2 := Lib.hid hr2
                           have HC2 : Hid (Ch (· = g) w w2) := Lib.hid (HC1.out.trans hc2)
                           clear hr2 hc2)
    clear x1 x2 hd hd2 hd3
    have HS2 : Hid (B ≤ w2.heap.size) := Lib.hid (Nat.le_trans hB HC2.out.size)
    have HGL : Hid (g < w.heap.size) := Lib.hid H0.out.lt
    obtain ⟨w3, hw3⟩ : ∃ w3, w3 = w2.alloc (.cells #[.int .i64 4, .int .i64 0] 110) := ⟨_, rfl⟩
    have hb3 : Below w2.heap.size w2 w3 := by rw [hw3]; exact below_new _ _
    have HB3 := Lib.hid hb3
    have HLT : Hid (w3.ownsRow w2.heap.size 110 2 (.slice (some ⟨w2.heap.size, 0, none⟩) 1 1) 1 (ints (eNums [(4, 0)]))) := Lib.hid (by rw [hw3]; exact lit_el w2 4)
    have HI := Lib.hid (ih w3 g B A2 n2 c2 rest (L - 1) (HR2.out.below hb3) (by have h9 := HEL.out; simp only [Tx.els, Tx.ex, Ex.els, List.length_cons] at h9 ⊢; omega) (by have := HLL.out; omega) (Nat.le_trans HS2.out hb3.size))
    have HLN : Hid (1 + a.els.length ≤ 1099511627776) := Lib.hid (by have h8 := HLL.out; have h9 := HEL.out; simp only [Tx.els, Tx.ex, Ex.els, List.length_cons] at h9 ⊢; omega)
    clear hb3 ih
    go_wp2_with (first
      | (go_at_call 138
         try rw [← hw3]
         refine HI.out.mono ?_
         rintro e w4 ⟨A4, c4, A5, n5, c5, rfl, ho4, hr4, hc4⟩
         have HO4 := Lib.hid (ownN_rd ho4)
         have HR4 := Lib.hid hr4
         have HC4 : Hid (Ch (· = g) w w4) := Lib.hid ((HC2.out.trans (ch_below HB3.out)).trans hc4)
         have HL4 := Lib.hid (own_ch HLT.out hc4 (fun q hq e => by
           have h1 := (HLT.out.lt q hq).1
           have h2 := HGL.out
           have h3 := HC2.out.size
           have e2 : q = g := e
           omega))
         have HZ4 : Hid (w2.heap.size ≤ w4.heap.size) := Lib.hid (Nat.le_trans HB3.out.size hc4.size)
         clear ho4 hr4 hc4)
      | (at_builtin; go_must (refine wpList_appSN eltEl rfl _ _ rfl w4 w2.heap.size _ 1 _ (by rfl) HL4.out A4 a.els.length c4 _ (by rfl) HO4.out (ints_one1 _) HZ4.out HLN.out ?_); rintro A6 c6 w6 ho6 hb6 hg6
         have HO6 := Lib.hid ho6
         have HR6 := Lib.hid (HR4.out.row HL4.out hg6 (by decide) HS2.out)
         have HC6 : Hid (Ch (· = g) w w6) := Lib.hid ⟨hg6.os.trans HC4.out.os, hg6.tape.trans HC4.out.tape, hg6.output.trans HC4.out.output, Nat.le_trans HC4.out.size hg6.size, fun q hq hn => (hg6.block q (Nat.lt_of_lt_of_le hq HC4.out.size) (fun e => by have h1 := (HL4.out.lt q e.symm).1; have h2 := HC2.out.size; omega)).trans (HC4.out.block q hq hn)⟩
         clear ho6 hb6 hg6))
    go_ret
    have e1 : (1 + a.els.length) = (Tx.t a).els.length := by simp only [Tx.els, Tx.ex, Ex.els, List.length_cons]; omega
    have h6 := HO6.out
    have h7 := HR6.out
    rw [app_nums'] at h6
    rw [show L - 1 - (a.els.length : Int) = L - (((Tx.t a).els.length : Nat) : Int) by rw [← e1]; omega] at h7
    rw [e1] at h6 ⊢
    exact ⟨A6, c6, A5, n5, c5, rfl, ownN_base h6 HC2.out.size, h7, HC6.out⟩
  | p a b iha ihb =>
    intro w g B A n c rest L h hL hL2 hB
    have H0 : Hid (Rdr w g B A n c (40 :: (a.rn ++ (46 :: (b.rn ++ (41 :: rest))))) L) := Lib.hid (by have h9 := h; simp only [Tx.rn, List.cons_append, List.append_assoc, List.nil_append, List.singleton_append] at h9; exact h9)
    obtain ⟨w1, hw1⟩ : ∃ w1, w1 = w.setCell ⟨g, 2, none⟩ (.int .i64 (L - 1)) := ⟨_, rfl⟩
    have HC1 : Hid (Ch (· = g) w w1) := Lib.hid (by rw [hw1]; exact ch_set _ _ _ _)
    have HR1 := Lib.hid (H0.out.set hw1)
    have HT := Lib.hid (take_any w1 g B _ _ _ _ _ _ HR1.out (by decide))
    have x2 := blk_cell H0.out.box 2 rfl
    have f2 := blk_free H0.out.box 2
    have HLL : Hid (1 ≤ L ∧ L ≤ 100000) := Lib.hid (by simp only [Tx.els, Tx.ex, Ex.els, List.length_cons, List.length_append, List.length_nil] at hL; omega)
    have hwr : IntKind.i64.wrap (L - 1) = L - 1 := IntWalk.i64_in _ (by have := HLL.out; omega)
    have HEL := Lib.hid hL
    clear h hL hL2
    go_enter Tryz.func138, Tryz.ntmps138
    go_upto_region 2 with fail
    rw [← hw1]
    clear hw1 x2 f2 hwr
    have x1 := blk_cell HR1.out.box 1 rfl
    have x2 := blk_cell HR1.out.box 2 rfl
    have hd : decide (L - 1 < 0) = false := decide_eq_false (by have := HLL.out; omega)
    have hd2 : ¬ (L - 1 < 0) := by have := HLL.out; omega
    have hd3 : 0 ≤ L - 1 := by have := HLL.out; omega
    go_upto_region 6 with (go_at_call 137
                           refine HT.out.mono ?_
                           rintro e w2 ⟨rfl, ⟨A2, n2, c2, hr2⟩, hc2⟩
                           have HR2 := Lib.hid hr2
                           have HC2 : Hid (Ch (· = g) w w2) := Lib.hid (HC1.out.trans hc2)
                           clear hr2 hc2)
    clear x1 x2 hd hd2 hd3
    have HS2 : Hid (B ≤ w2.heap.size) := Lib.hid (Nat.le_trans hB HC2.out.size)
    have HGL : Hid (g < w.heap.size) := Lib.hid H0.out.lt
    have HEA : Hid ((a.els.length : Int) + (b.els.length : Int) + 1 ≤ L) := Lib.hid (by have h9 := HEL.out; simp only [Tx.els, Tx.ex, Ex.els, List.length_cons, List.length_append] at h9 ⊢; omega)
    have HIA := Lib.hid (iha w2 g B A2 n2 c2 _ (L - 1) HR2.out (by have := HEA.out; omega) (by have := HLL.out; omega) HS2.out)
    clear iha
    go_upto_region 16 with (go_at_call 138
                            refine HIA.out.mono ?_
                            rintro e w3 ⟨A3, c3, A4, n4, c4, rfl, ho, hr, hc⟩
                            have HO3 := Lib.hid ho
                            have HR3 := Lib.hid hr
                            have HC3 : Hid (Ch (· = g) w w3) := Lib.hid (HC2.out.trans hc)
                            clear ho hr hc)
    have HTB := Lib.hid (take_any w3 g B _ _ _ _ _ _ HR3.out (by decide))
    go_upto_region 18 with (go_at_call 137
                            refine HTB.out.mono ?_
                            rintro e w5 ⟨rfl, ⟨A5, n5, c5, hr⟩, hc⟩
                            have HR5 := Lib.hid hr
                            have HO5 := Lib.hid (own_ch HO3.out hc (fun q hq e => by
                              have h1 := (HO3.out.lt q hq).1
                              have h2 := HGL.out
                              have h3 := HC2.out.size
                              have e2 : q = g := e
                              omega))
                            have HC5 : Hid (Ch (· = g) w w5) := Lib.hid (HC3.out.trans hc)
                            clear hr hc)
    have HS5 : Hid (B ≤ w5.heap.size) := Lib.hid (Nat.le_trans hB HC5.out.size)
    have HIB := Lib.hid (ihb w5 g B A5 n5 c5 _ (L - 1 - (a.els.length : Int)) HR5.out (by have := HEA.out; omega) (by have := HLL.out; omega) HS5.out)
    clear ihb
    go_upto_region 19 with (go_at_call 138
                            refine HIB.out.mono ?_
                            rintro e w6 ⟨A6, c6, A7, n7, c7, rfl, ho, hr, hc⟩
                            have HO6 := Lib.hid ho
                            have HR6 := Lib.hid hr
                            have HP6 := Lib.hid (own_ch HO5.out hc (fun q hq e => by
                              have h1 := (HO5.out.lt q hq).1
                              have h2 := HGL.out
                              have h3 := HC2.out.size
                              have e2 : q = g := e
                              omega))
                            have HC6 : Hid (Ch (· = g) w w6) := Lib.hid (HC5.out.trans hc)
                            clear ho hr hc)
    have HTC := Lib.hid (take_any w6 g B _ _ _ _ _ _ HR6.out (by decide))
    go_upto_region 20 with (go_at_call 137
                            refine HTC.out.mono ?_
                            rintro e w8 ⟨rfl, ⟨A8, n8, c8, hr⟩, hc⟩
                            have HR8 := Lib.hid hr
                            have HQ8 := Lib.hid (ownN_rd (own_ch HO6.out hc (fun q hq e => by
                              have h1 := (HO6.out.lt q hq).1
                              have h2 := HGL.out
                              have h3 := HC5.out.size
                              have e2 : q = g := e
                              omega)))
                            have HP8 := Lib.hid (ownN_rd (own_ch HP6.out hc (fun q hq e => by
                              have h1 := (HP6.out.lt q hq).1
                              have h2 := HGL.out
                              have h3 := HC2.out.size
                              have e2 : q = g := e
                              omega)))
                            have HC8 : Hid (Ch (· = g) w w8) := Lib.hid (HC6.out.trans hc)
                            clear hr hc)
    obtain ⟨w9, hw9⟩ : ∃ w9, w9 = w8.alloc (.cells #[.int .i64 2, .int .i64 0] 110) := ⟨_, rfl⟩
    obtain ⟨w10, hw10⟩ : ∃ w10, w10 = w9.alloc (.cells #[.slice (some ⟨w8.heap.size, 0, none⟩) 1 1, .slice A3 a.els.length c3, .slice A6 b.els.length c6] 42) := ⟨_, rfl⟩
    have s9 : w9.heap.size = w8.heap.size + 1 := by rw [hw9]; simp
    have hb9 : Below w8.heap.size w8 w9 := by rw [hw9]; exact below_new _ _
    have hb10 : Below w8.heap.size w8 w10 := by rw [hw10]; exact hb9.alloc hb9.size _
    have HLT : Hid (Rd w10 (some ⟨w8.heap.size, 0, none⟩) (1 * 2) (ints (eNums [(2, 0)]))) := Lib.hid (by
      have h1 := ownN_rd (lit_el w8 2)
      rw [← hw9] at h1
      rw [hw10]; exact h1.alloc _)
    have HV : Hid (RdX w10 (some ⟨w8.heap.size + 1, 0, none⟩) 3 [[(2, 0)], a.els, b.els]) := Lib.hid (by
      refine ⟨[.slice (some ⟨w8.heap.size, 0, none⟩) 1 1, .slice A3 a.els.length c3, .slice A6 b.els.length c6], ?_, rfl, ?_⟩
      · rw [hw10, ← s9]; exact own_rd (own_lit w9 #[.slice (some ⟨w8.heap.size, 0, none⟩) 1 1, .slice A3 a.els.length c3, .slice A6 b.els.length c6] 3 42 rfl (by omega))
      · intro j v ys hj hy
        match j, hj, hy with
        | 0, hj, hy => injection hj with hj; injection hy with hy; subst hj hy; exact ⟨_, _, _, rfl, HLT.out⟩
        | 1, hj, hy => injection hj with hj; injection hy with hy; subst hj hy; exact ⟨_, _, _, rfl, HP8.out.below hb10 (Nat.le_refl _)⟩
        | 2, hj, hy => injection hj with hj; injection hy with hy; subst hj hy; exact ⟨_, _, _, rfl, HQ8.out.below hb10 (Nat.le_refl _)⟩
        | j + 3, hj, hy => simp at hj)
    have HCT := Lib.hid (concatE_any w10 _ 3 3 _ HV.out (by omega) (by have h8 := HLL.out; have h9 := HEA.out; simp [totX]; omega))
    have HR10 := Lib.hid (HR8.out.below hb10)
    have HC10 : Hid (Ch (· = g) w w10) := Lib.hid (HC8.out.trans (ch_below hb10))
    have hW : w10 = (w8.alloc (.cells #[.int .i64 2, .int .i64 0] 110)).alloc (.cells #[.slice (some ⟨w8.heap.size, 0, none⟩) 1 1, .slice A3 a.els.length c3, .slice A6 b.els.length c6] 42) := by rw [hw10, hw9]
    clear hw9 hw10 s9 hb9 hb10
    go_wp2_with (go_at_call 133
                 rw [← hW]
                 refine HCT.out.mono ?_
                 rintro e w11 ⟨A11, n11, c11, rfl, ho, hb⟩
                 have HO11 := Lib.hid ho
                 have HR11 := Lib.hid (HR10.out.below hb)
                 have HC11 : Hid (Ch (· = g) w w11) := Lib.hid (HC10.out.trans (ch_below hb))
                 clear ho hb)
    go_ret
    have h6 := HO11.out
    have h7 := HR11.out
    have e0 : ([[(2, 0)], a.els, b.els] : List (List El)).flatten = (Tx.p a b).els := by simp [Tx.els, Tx.ex, Ex.els]
    rw [e0] at h6
    have e1 : n11 = (Tx.p a b).els.length := by have h9 := h6.1; simp [eNums_len] at h9; omega
    have e2 : (Tx.p a b).els.length = a.els.length + b.els.length + 1 := by simp [Tx.els, Tx.ex, Ex.els]
    subst e1
    rw [show L - 1 - (a.els.length : Int) - (b.els.length : Int) = L - (((Tx.p a b).els.length : Nat) : Int) by rw [e2]; omega] at h7
    exact ⟨A11, c11, _, _, _, rfl, ownN_base h6 HC10.out.size, h7, HC11.out⟩
end Go.Proofs.YtadmbphefpfbmaaGreatDoor
/- The reader of programs: a text of one assignment (program). -/
namespace Go.Proofs.YtadmbphefpfbmaaGreatDoor
open Go.RowKit
set_option linter.unusedVariables false
set_option linter.unusedSimpArgs false
attribute [local go_sem ↓] Go.wp_at_zero Go.wp_at_succ
def Tx.cmd (x : Tx) : Cmd := ⟨0, 0, 0, x.els⟩
def sLenP : Value → Nat
  | .slice _ n _ => n
  | _ => 0
theorem Rdr.not {w : World} {g B n c B' e s m : Nat} {A : Option Addr} {rs : List Nat} {L : Int} {v : Value} {vs : List Value} (h : Rdr w g B A n c rs L) (ho : w.ownsRow B' e s v m vs) (hT : 147 ≠ e) : ¬ Fo v g := fun hf => by
  obtain ⟨cs, h1⟩ := own_foP ho hf
  exact blk_ne h.box h1 hT rfl
theorem Rdr.own {w w' : World} {g B n c B' e s m : Nat} {A : Option Addr} {rs : List Nat} {L : Int} {v : Value} {vs : List Value} (h : Rdr w g B A n c rs L) (ho : w.ownsRow B' e s v m vs) (hT : 147 ≠ e) (hc : Ch (· = g) w w') : w'.ownsRow B' e s v m vs := own_ch ho hc (fun q hq e => h.not ho hT (by rw [← (show q = g from e)]; exact hq))
/-- One command that has been read. -/
def CmdR (w : World) (x : Tx) (A1 : Option Addr) (c1 : Nat) (w' : World) : Prop :=
  ∃ Av cv, w'.ownsRow w.heap.size 44 4 (.slice A1 1 c1) 1 [.int .i64 0, .int .i64 0, .int .i64 0, .slice Av x.els.length cv] ∧ w'.ownsRow w.heap.size 110 2 (.slice Av x.els.length cv) x.els.length (ints (eNums x.els))
theorem CmdR.below {w w' w2 : World} {x : Tx} {A1 : Option Addr} {c1 : Nat} (h : CmdR w x A1 c1 w') (hb : Below w'.heap.size w' w2) : CmdR w x A1 c1 w2 := by
  obtain ⟨Av, cv, h1, h2⟩ := h
  exact ⟨Av, cv, ownN_below h1 hb (Nat.le_refl _), ownN_below h2 hb (Nat.le_refl _)⟩
def CmdP (w : World) (g B : Nat) (x : Tx) (L : Int) (e : Ending) (w' : World) : Prop :=
  ∃ A1 c1, e = .returned (.slice A1 1 c1) ∧ CmdR w x A1 c1 w' ∧ (∃ A n c, Rdr w' g B A n c [] (L - (x.els.length : Int))) ∧ Ch (· = g) w w'
def CmSt (w : World) (g B : Nat) (x : Tx) (L : Int) (v : Value) (wr : World) : Prop :=
  (v = .slice (some ⟨w.heap.size, 0, none⟩) 0 0 ∧ (∃ A n c, Rdr wr g B A n c (48 :: 61 :: x.rn) L) ∧ wr.ownsRow w.heap.size 44 4 (.slice (some ⟨w.heap.size, 0, none⟩) 0 0) 0 [] ∧ Ch (· = g) w wr) ∨
  (∃ A1 c1, v = .slice A1 1 c1 ∧ CmdR w x A1 c1 wr ∧ (∃ A n c, Rdr wr g B A n c [] (L - (x.els.length : Int))) ∧ Ch (· = g) w wr)
set_option maxHeartbeats 8000000 in
set_option maxRecDepth 100000 in
theorem commands_any (x : Tx) (w : World) (g B : Nat) (A : Option Addr) (n c : Nat) (L : Int) (h : Rdr w g B A n c (48 :: 61 :: x.rn) L) (hL : (x.els.length : Int) ≤ L) (hL2 : L ≤ 100000) (hB : B ≤ w.heap.size) :
    Calls Tryz.prog 97 #[.pointer (some ⟨g, 0, none⟩)] w (CmdP w g B x L) := by
  obtain ⟨w1, hw1⟩ : ∃ w1, w1 = w.alloc (.cells #[] 44) := ⟨_, rfl⟩
  have hb1 : Below w.heap.size w w1 := by rw [hw1]; exact below_new _ _
  have HST : Hid (CmSt w g B x L (.slice (some ⟨w.heap.size, 0, none⟩) 0 0) w1) := Lib.hid (.inl ⟨rfl, ⟨A, n, c, h.below hb1⟩, by rw [hw1]; exact ownN_lit w #[] 0 4 44 rfl (by omega), ch_below hb1⟩)
  have HL := Lib.hid hL; have HL2 := Lib.hid hL2; have HB := Lib.hid hB
  have HGL : Hid (g < w.heap.size) := Lib.hid h.lt
  clear h hL hL2 hB hb1
  go_enter Tryz.func97, Tryz.ntmps97
  go_upto_region 2 with fail
  rw [← hw1]
  clear hw1
  go_loopw [3] (fun v wr => Hid (CmSt w g B x L v wr)) (fun v _ => 1 - sLenP v)
  case atStart => exact HST
  case round =>
    clear HST
    rcases hrel.out with ⟨rfl, ⟨A0, n0, c0, hr0⟩, ho0, hc0⟩ | ⟨A1, c1, rfl, hcm, ⟨A0, n0, c0, hr0⟩, hc0⟩
    · skip
      have HR0 := Lib.hid hr0; have HO0 := Lib.hid ho0; have HC0 := Lib.hid hc0
      clear hrel hr0 ho0 hc0
      have HPK := Lib.hid (peek_any wr g B _ _ _ _ _ _ HR0.out)
      have HT := Lib.hid (take_any wr g B _ _ _ _ _ _ HR0.out (by decide))
      have x1 := blk_cell HR0.out.box 1 rfl
      go_upto_region 3 with (go_at_call 136; refine HPK.out.mono ?_; rintro e w' ⟨rfl, rfl⟩)
      clear x1
      go_upto_region 4 with (go_at_call 137
                             refine HT.out.mono ?_
                             rintro e w2 ⟨rfl, ⟨A2, n2, c2, hr⟩, hc⟩
                             have HR2 := Lib.hid hr
                             have HO2 := Lib.hid (HR0.out.own HO0.out (by decide) hc)
                             have HC2 : Hid (Ch (· = g) w w2) := Lib.hid (HC0.out.trans hc)
                             clear hr hc)
      have HD := Lib.hid (digit_any w2 g B _ _ _ _ _ HR2.out)
      go_upto_region 6 with (go_at_call 140
                             refine HD.out.mono ?_
                             rintro e w3 ⟨rfl, hr, hc⟩
                             have HR3 := Lib.hid hr
                             have HO3 := Lib.hid (HR2.out.own HO2.out (by decide) hc)
                             have HC3 : Hid (Ch (· = g) w w3) := Lib.hid (HC2.out.trans hc)
                             clear hr hc)
      have HT2 := Lib.hid (take_any w3 g B _ _ _ _ _ _ HR3.out (by decide))
      go_upto_region 7 with (go_at_call 137
                             refine HT2.out.mono ?_
                             rintro e w4 ⟨rfl, ⟨A4, n4, c4, hr⟩, hc⟩
                             have HR4 : Hid (Rdr w4 g B A4 n4 c4 (x.rn ++ []) L) := Lib.hid (by rw [List.append_nil]; exact hr)
                             have HO4 := Lib.hid (HR3.out.own HO3.out (by decide) hc)
                             have HC4 : Hid (Ch (· = g) w w4) := Lib.hid (HC3.out.trans hc)
                             clear hr hc)
      have HE := Lib.hid (expr_any x w4 g B A4 n4 c4 [] L HR4.out HL.out HL2.out (Nat.le_trans HB.out HC4.out.size))
      go_wp2_with (first
        | (go_at_call 138
           refine HE.out.mono ?_
           rintro e w5 ⟨A5, c5, A6, n6, c6, rfl, ho, hr, hc⟩
           have HV5 := Lib.hid (ownN_base ho HC4.out.size)
           have HR5 := Lib.hid hr
           have HO5 := Lib.hid (HR4.out.own HO4.out (by decide) hc)
           have HC5 : Hid (Ch (· = g) w w5) := Lib.hid (HC4.out.trans hc)
           have HZ5 : Hid (w.heap.size ≤ w5.heap.size) := Lib.hid HC5.out.size
           clear ho hr hc)
        | (at_builtin; go_must (refine wpList_app1N eltCm rfl _ _ rfl w5 w.heap.size (.slice (some ⟨w.heap.size, 0, none⟩) 0 0) 0 [] (by rfl) HO5.out #[.int .i64 0, .int .i64 0, .int .i64 0, .slice A5 x.els.length c5] rfl (by intro y hy; simp at hy; rcases hy with rfl | rfl <;> rfl) (by rfl) HZ5.out (by omega) ?_); rintro A7 c7 w7 ho7 hb7 hg7
           have HO7 := Lib.hid ho7
           have HV7 := Lib.hid (own_ch HV5.out (ch_row hg7) (fun q h1 h2 => own_types HV5.out HO5.out (by decide) q h1 h2))
           have HR7 := Lib.hid ((HR5.out.row (B' := w.heap.size) HO5.out hg7 (by decide) HB.out))
           have HC7 : Hid (Ch (· = g) w w7) := Lib.hid ⟨hg7.os.trans HC5.out.os, hg7.tape.trans HC5.out.tape, hg7.output.trans HC5.out.output, Nat.le_trans HC5.out.size hg7.size, fun q hq hn => (hg7.block q (Nat.lt_of_lt_of_le hq HC5.out.size) (fun e => by have h1 := (HO5.out.lt q e.symm).1; omega)).trans (HC5.out.block q hq hn)⟩
           clear ho7 hb7 hg7))
      go_roundw
      case rel => exact Lib.hid (.inr ⟨A7, c7, rfl, ⟨A5, c5, HO7.out, HV7.out⟩, ⟨_, _, _, HR7.out⟩, HC7.out⟩)
      case measure => simp [sLenP]
    · skip
      have HR0 := Lib.hid hr0; have HCM := Lib.hid hcm; have HC0 := Lib.hid hc0
      clear hrel hr0 hcm hc0
      have HPK := Lib.hid (peek0_any wr g B _ _ _ _ HR0.out)
      go_wp2_with (go_at_call 136; refine HPK.out.mono ?_; rintro e w' ⟨rfl, rfl⟩)
      go_ret
      exact ⟨A1, c1, rfl, HCM.out, ⟨_, _, _, HR0.out⟩, HC0.out⟩
end Go.Proofs.YtadmbphefpfbmaaGreatDoor
/- The reference's reader of programs: expressions of one variable. Printed by mk_pks.py. -/
namespace Go.Proofs.YtadmbphefpfbmaaGreatDoor
open Go.RowKit
set_option linter.unusedVariables false
set_option linter.unusedSimpArgs false
attribute [local go_sem ↓] Go.wp_at_zero Go.wp_at_succ
set_option maxHeartbeats 400000 in
theorem l01Digit_any (w : World) (c : Nat) (hc : c < 256) : Calls Tryz.prog 135 #[.int .u8 (c : Int)] w fun e w' => e = .returned (.bool (decide (48 ≤ c ∧ c ≤ 57))) ∧ w = w' := by
  by_cases h1 : 48 ≤ c
  · by_cases h2 : c ≤ 57
    · have h3 : (48 : Int) ≤ (c : Int) := by omega
      have h4 : (c : Int) ≤ 57 := by omega
      go_enter Tryz.func135, Tryz.ntmps135
      go_wp2_with fail
      go_ret
      exact ⟨by simp [h1, h2], rfl⟩
    · have h3 : (48 : Int) ≤ (c : Int) := by omega
      have h4 : ¬ (c : Int) ≤ 57 := by omega
      go_enter Tryz.func135, Tryz.ntmps135
      go_wp2_with fail
      go_ret
      exact ⟨by simp [h1, h2], rfl⟩
  · have h3 : ¬ (48 : Int) ≤ (c : Int) := by omega
    go_enter Tryz.func135, Tryz.ntmps135
    go_wp2_with fail
    go_ret
    exact ⟨by simp [h1], rfl⟩
/-- The bytes of a string at a place. -/
def BsAt (s : ByteArray) (at_ : Nat) (l : List Nat) : Prop := ∀ (i c : Nat), l[i]? = some c → ∀ j, j = at_ + i → ∃ h : j < s.size, s[j].toNat = c
theorem Tx.els_rn : ∀ x : Tx, x.els.length ≤ x.rn.length
  | .v => by simp [Tx.els, Tx.ex, Ex.els, Tx.rn]
  | .h a => by have h := a.els_rn; simp only [Tx.els, Tx.ex, Ex.els, Tx.rn, List.length_cons] at *; omega
  | .t a => by have h := a.els_rn; simp only [Tx.els, Tx.ex, Ex.els, Tx.rn, List.length_cons] at *; omega
  | .p a b => by have h := a.els_rn; have h2 := b.els_rn; simp only [Tx.els, Tx.ex, Ex.els, Tx.rn, List.length_cons, List.length_append] at *; omega
def RxP (w : World) (x : Tx) (nx : Nat) (e : Ending) (w' : World) : Prop :=
  ∃ A c, e = .returned (.tuple #[.slice A x.els.length c, .int .i64 (nx : Int), .bool true]) ∧ w'.ownsRow w.heap.size 110 2 (.slice A x.els.length c) x.els.length (ints (eNums x.els)) ∧ Below w.heap.size w w'
set_option maxHeartbeats 8000000 in
set_option maxRecDepth 100000 in
theorem readExpr_any (x : Tx) : ∀ (w : World) (s : ByteArray) (at_ : Nat) (d : Int), BsAt s at_ x.rn → (x.deep : Int) ≤ d → d ≤ 1000 → at_ + x.rn.length ≤ 100000 → Calls Tryz.prog 96 #[.string s, .int .i64 (at_ : Int), .int .i64 d] w (RxP w x (at_ + x.rn.length)) := by
  induction x with
  | v =>
    intro w s at_ d hb hd hd2 hat
    obtain ⟨h1, hc0⟩ := hb 0 48 rfl at_ (by omega)
    have HBY := Lib.hid hb
    have HDD : Hid (1 ≤ d ∧ d ≤ 1000) := Lib.hid (by simp only [Tx.deep] at hd; omega)
    have HD := Lib.hid hd
    have HAT := Lib.hid hat
    have hd0 : (d == 0) = false := by rw [beq_eq_false_iff_ne]; have := HDD.out; omega
    have hlt : (at_ : Int) < (s.size : Int) := by omega
    have h0 : (0 : Int) ≤ (at_ : Int) := by omega
    clear hb hd hat
    have hat := HAT.out
    go_enter Tryz.func96, Tryz.ntmps96
    go_wp2_with (first
      | (go_at_call 135
         have hh := l01Digit_any w 48 (by decide)
         refine hh.mono ?_
         rintro e w' ⟨rfl, rfl⟩
         clear hh))
    refine bodyPost_ret (v := .tuple #[.slice (some ⟨w.heap.size, 0, none⟩) 1 1, .int .i64 ((at_ : Int) + 1), .bool true]) (by simp [results, Tryz.results96, go_sem]) rfl ?_
    exact ⟨_, _, by simp [Tx.rn, Tx.els, Tx.ex, Ex.els], lit_elV w, below_new _ _⟩
  | h a ih =>
    intro w s at_ d hb hd hd2 hat
    obtain ⟨h1, hc0⟩ := hb 0 104 rfl at_ (by omega)
    have HBY := Lib.hid hb
    have HDD : Hid (1 ≤ d ∧ d ≤ 1000) := Lib.hid (by simp only [Tx.deep] at hd; omega)
    have HD := Lib.hid hd
    have HAT := Lib.hid hat
    have hd0 : (d == 0) = false := by rw [beq_eq_false_iff_ne]; have := HDD.out; omega
    have hlt : (at_ : Int) < (s.size : Int) := by omega
    have h0 : (0 : Int) ≤ (at_ : Int) := by omega
    clear hb hd hat
    have HI := Lib.hid (ih w s (at_ + 1) (d - 1) (fun i c hi j hj => HBY.out (i + 1) c (by simpa [Tx.rn] using hi) j (by omega)) (by have h9 := HD.out; simp only [Tx.deep] at h9; omega) (by have := HDD.out; omega) (by have h9 := HAT.out; simp only [Tx.rn, List.length_cons] at h9; omega))
    obtain ⟨m, hm⟩ : ∃ m, m = at_ + 1 + a.rn.length := ⟨_, rfl⟩
    rw [← hm, show ((at_ + 1 : Nat) : Int) = (at_ : Int) + 1 by omega] at HI
    have HM : Hid (m = at_ + (Tx.h a).rn.length) := Lib.hid (by rw [hm]; simp only [Tx.rn, List.length_cons]; omega)
    have HAL : Hid (a.els.length ≤ 1000000) := Lib.hid (by have h7 := a.els_rn; have h9 := HAT.out; simp only [Tx.rn, List.length_cons] at h9; omega)
    have hat := HAT.out
    have hdd := HDD.out
    clear ih hm
    go_enter Tryz.func96, Tryz.ntmps96
    go_wp2_with (first
      | (go_at_call 135
         have hh := l01Digit_any w 104 (by decide)
         refine hh.mono ?_
         rintro e w' ⟨rfl, rfl⟩
         clear hh)
      | (go_at_call 96
         refine HI.out.mono ?_
         rintro e w2 ⟨A2, c2, rfl, ho, hb2⟩
         have HO2 := Lib.hid ho; have HB2 := Lib.hid hb2
         clear ho hb2)
      | (at_builtin; go_must (refine wpList_appSN eltEl rfl _ _ rfl (w2.alloc (.cells #[.int .i64 3, .int .i64 0] 110)) w2.heap.size (.slice (some ⟨w2.heap.size, 0, none⟩) 1 1) 1 (ints (eNums [(3, 0)])) (by rfl) (lit_el w2 3) A2 a.els.length c2 (ints (eNums a.els)) (by rfl) ((ownN_rd HO2.out).alloc _) (ints_one1 _) (by simp) (by have := HAL.out; omega) ?_); rintro A3 c3 w3 ho3 hb3 hg3
         have HO3 := Lib.hid ho3
         have HB3 : Hid (Below w.heap.size w w3) := Lib.hid (bqcP (hb3 |> fun h => (below_new w2 (.cells #[.int .i64 3, .int .i64 0] 110)).trans h) HB2.out)
         clear ho3 hb3 hg3))
    refine bodyPost_ret (v := .tuple #[.slice A3 (1 + a.els.length) c3, .int .i64 (m : Int), .bool true]) (by simp [results, Tryz.results96, go_sem]) rfl ?_
    have e1 : (1 + a.els.length) = (Tx.h a).els.length := by simp only [Tx.els, Tx.ex, Ex.els, List.length_cons]; omega
    have h6 := HO3.out
    rw [app_nums'] at h6
    rw [e1] at h6 ⊢
    exact ⟨A3, c3, by rw [HM.out], ownN_base h6 HB2.out.size, HB3.out⟩
  | t a ih =>
    intro w s at_ d hb hd hd2 hat
    obtain ⟨h1, hc0⟩ := hb 0 116 rfl at_ (by omega)
    have HBY := Lib.hid hb
    have HDD : Hid (1 ≤ d ∧ d ≤ 1000) := Lib.hid (by simp only [Tx.deep] at hd; omega)
    have HD := Lib.hid hd
    have HAT := Lib.hid hat
    have hd0 : (d == 0) = false := by rw [beq_eq_false_iff_ne]; have := HDD.out; omega
    have hlt : (at_ : Int) < (s.size : Int) := by omega
    have h0 : (0 : Int) ≤ (at_ : Int) := by omega
    clear hb hd hat
    have HI := Lib.hid (ih w s (at_ + 1) (d - 1) (fun i c hi j hj => HBY.out (i + 1) c (by simpa [Tx.rn] using hi) j (by omega)) (by have h9 := HD.out; simp only [Tx.deep] at h9; omega) (by have := HDD.out; omega) (by have h9 := HAT.out; simp only [Tx.rn, List.length_cons] at h9; omega))
    obtain ⟨m, hm⟩ : ∃ m, m = at_ + 1 + a.rn.length := ⟨_, rfl⟩
    rw [← hm, show ((at_ + 1 : Nat) : Int) = (at_ : Int) + 1 by omega] at HI
    have HM : Hid (m = at_ + (Tx.t a).rn.length) := Lib.hid (by rw [hm]; simp only [Tx.rn, List.length_cons]; omega)
    have HAL : Hid (a.els.length ≤ 1000000) := Lib.hid (by have h7 := a.els_rn; have h9 := HAT.out; simp only [Tx.rn, List.length_cons] at h9; omega)
    have hat := HAT.out
    have hdd := HDD.out
    clear ih hm
    go_enter Tryz.func96, Tryz.ntmps96
    go_wp2_with (first
      | (go_at_call 135
         have hh := l01Digit_any w 116 (by decide)
         refine hh.mono ?_
         rintro e w' ⟨rfl, rfl⟩
         clear hh)
      | (go_at_call 96
         refine HI.out.mono ?_
         rintro e w2 ⟨A2, c2, rfl, ho, hb2⟩
         have HO2 := Lib.hid ho; have HB2 := Lib.hid hb2
         clear ho hb2)
      | (at_builtin; go_must (refine wpList_appSN eltEl rfl _ _ rfl (w2.alloc (.cells #[.int .i64 4, .int .i64 0] 110)) w2.heap.size (.slice (some ⟨w2.heap.size, 0, none⟩) 1 1) 1 (ints (eNums [(4, 0)])) (by rfl) (lit_el w2 4) A2 a.els.length c2 (ints (eNums a.els)) (by rfl) ((ownN_rd HO2.out).alloc _) (ints_one1 _) (by simp) (by have := HAL.out; omega) ?_); rintro A3 c3 w3 ho3 hb3 hg3
         have HO3 := Lib.hid ho3
         have HB3 : Hid (Below w.heap.size w w3) := Lib.hid (bqcP (hb3 |> fun h => (below_new w2 (.cells #[.int .i64 4, .int .i64 0] 110)).trans h) HB2.out)
         clear ho3 hb3 hg3))
    refine bodyPost_ret (v := .tuple #[.slice A3 (1 + a.els.length) c3, .int .i64 (m : Int), .bool true]) (by simp [results, Tryz.results96, go_sem]) rfl ?_
    have e1 : (1 + a.els.length) = (Tx.t a).els.length := by simp only [Tx.els, Tx.ex, Ex.els, List.length_cons]; omega
    have h6 := HO3.out
    rw [app_nums'] at h6
    rw [e1] at h6 ⊢
    exact ⟨A3, c3, by rw [HM.out], ownN_base h6 HB2.out.size, HB3.out⟩
  | p a b iha ihb =>
    intro w s at_ d hb hd hd2 hat
    obtain ⟨h1, hc0⟩ := hb 0 40 rfl at_ (by omega)
    have HBY := Lib.hid hb
    have HDD : Hid (1 ≤ d ∧ d ≤ 1000) := Lib.hid (by simp only [Tx.deep] at hd; omega)
    have HD := Lib.hid hd
    have HAT := Lib.hid hat
    have hd0 : (d == 0) = false := by rw [beq_eq_false_iff_ne]; have := HDD.out; omega
    have hlt : (at_ : Int) < (s.size : Int) := by omega
    have h0 : (0 : Int) ≤ (at_ : Int) := by omega
    clear hb hd hat
    have HIA := Lib.hid (iha w s (at_ + 1) (d - 1) (fun i c hi j hj => HBY.out (i + 1) c (by have h9 := (List.getElem?_eq_some_iff.1 hi).1; simp only [Tx.rn, List.getElem?_cons_succ]; rw [List.getElem?_append_left h9]; exact hi) j (by omega)) (by have h9 := HD.out; simp only [Tx.deep] at h9; omega) (by have := HDD.out; omega) (by have h9 := HAT.out; simp only [Tx.rn, List.length_cons, List.length_append] at h9; omega))
    obtain ⟨m, hm⟩ : ∃ m, m = at_ + 1 + a.rn.length := ⟨_, rfl⟩
    obtain ⟨hm1, hmc⟩ := HBY.out (1 + a.rn.length) 46 (by simp only [Tx.rn]; rw [Nat.add_comm, List.getElem?_cons_succ, List.getElem?_append_right (Nat.le_refl _), Nat.sub_self]; rfl) m (by omega)
    have HIB := Lib.hid (fun (w2 : World) => ihb w2 s (m + 1) (d - 1) (fun i c hi j hj => HBY.out (1 + (a.rn.length + (1 + i))) c (by have h9 := (List.getElem?_eq_some_iff.1 hi).1; simp only [Tx.rn]; rw [Nat.add_comm, List.getElem?_cons_succ, List.getElem?_append_right (by omega), Nat.add_sub_cancel_left, Nat.add_comm 1 i, List.getElem?_cons_succ, List.getElem?_append_left h9]; exact hi) j (by omega)) (by have h9 := HD.out; simp only [Tx.deep] at h9; omega) (by have := HDD.out; omega) (by have h9 := HAT.out; simp only [Tx.rn, List.length_cons, List.length_append] at h9; omega))
    obtain ⟨q, hq⟩ : ∃ q, q = m + 1 + b.rn.length := ⟨_, rfl⟩
    obtain ⟨hq1, hqc⟩ := HBY.out (1 + (a.rn.length + (1 + b.rn.length))) 41 (by simp only [Tx.rn]; rw [Nat.add_comm, List.getElem?_cons_succ, List.getElem?_append_right (by omega), Nat.add_sub_cancel_left, Nat.add_comm 1, List.getElem?_cons_succ, List.getElem?_append_right (Nat.le_refl _), Nat.sub_self]; rfl) q (by omega)
    rw [← hm, show ((at_ + 1 : Nat) : Int) = (at_ : Int) + 1 by omega] at HIA
    rw [← hq, show ((m + 1 : Nat) : Int) = (m : Int) + 1 by omega] at HIB
    have HQ : Hid (q + 1 = at_ + (Tx.p a b).rn.length) := Lib.hid (by rw [hq, hm]; simp only [Tx.rn, List.length_cons, List.length_append, List.length_nil]; omega)
    have hq9 : q ≤ 100000 := by have h8 := HQ.out; have h9 := HAT.out; omega
    have hm9 : m ≤ 100000 := by omega
    have HAL : Hid (a.els.length ≤ 100000 ∧ b.els.length ≤ 100000) := Lib.hid (by have h7 := a.els_rn; have h8 := b.els_rn; omega)
    have hlm : (m : Int) < (s.size : Int) := by omega
    have hlq : (q : Int) < (s.size : Int) := by omega
    have h0m : (0 : Int) ≤ (m : Int) := by omega
    have hat := HAT.out
    have hdd := HDD.out
    have hgm : ¬ (s.size ≤ m) := by omega
    have hgq : ¬ (s.size ≤ q) := by omega
    clear iha ihb hm hq
    go_enter Tryz.func96, Tryz.ntmps96
    go_upto_region 17 with (first
      | (go_at_call 135
         have hh := l01Digit_any w 40 (by decide)
         refine hh.mono ?_
         rintro e w' ⟨rfl, rfl⟩
         clear hh)
      | (go_at_call 96
         refine HIA.out.mono ?_
         rintro e w2 ⟨A2, c2, rfl, ho, hb2⟩
         have HO2 := Lib.hid ho; have HB2 := Lib.hid hb2
         have HIB2 := Lib.hid (HIB.out w2)
         clear ho hb2))
    go_upto_region 23 with (go_at_call 96
                            refine HIB2.out.mono ?_
                            rintro e w3 ⟨A3, c3, rfl, ho, hb3⟩
                            have HO3 := Lib.hid ho
                            have HP3 := Lib.hid (ownN_below HO2.out hb3 (Nat.le_refl _))
                            have HB3 : Hid (Below w.heap.size w w3) := Lib.hid (bqcP hb3 HB2.out)
                            clear ho hb3)
    go_upto_region 26 with (at_builtin; go_must (refine wpList_appSN eltEl rfl _ _ rfl (w3.alloc (.cells #[.int .i64 2, .int .i64 0] 110)) w3.heap.size (.slice (some ⟨w3.heap.size, 0, none⟩) 1 1) 1 (ints (eNums [(2, 0)])) (by rfl) (lit_el w3 2) A2 a.els.length c2 (ints (eNums a.els)) (by rfl) ((ownN_rd HP3.out).alloc _) (ints_one1 _) (by simp) (by have := HAL.out; omega) ?_); rintro A4 c4 w4 ho4 hb4 hg4
                            have HO4 := Lib.hid ho4
                            have HB34 : Hid (Below w3.heap.size w3 w4) := Lib.hid ((below_new w3 (.cells #[.int .i64 2, .int .i64 0] 110)).trans hb4)
                            have HQ4 := Lib.hid (ownN_rd (ownN_below HO3.out HB34.out (Nat.le_refl _)))
                            have HB4 : Hid (Below w.heap.size w w4) := Lib.hid (bqcP HB34.out HB3.out)
                            clear ho4 hb4 hg4)
    go_wp2_with (at_builtin; go_must (refine wpList_appSN eltEl rfl _ _ rfl w4 w3.heap.size (.slice A4 (1 + a.els.length) c4) (1 + a.els.length) _ (by rfl) HO4.out A3 b.els.length c3 (ints (eNums b.els)) (by rfl) HQ4.out (ints_one1 _) HB34.out.size (by have := HAL.out; omega) ?_); rintro A5 c5 w5 ho5 hb5 hg5
                 have HO5 := Lib.hid ho5
                 have HB5 : Hid (Below w.heap.size w w5) := Lib.hid (bqcP (HB34.out.trans hb5) HB3.out)
                 clear ho5 hb5 hg5)
    refine bodyPost_ret (v := .tuple #[.slice A5 (1 + a.els.length + b.els.length) c5, .int .i64 ((q : Int) + 1), .bool true]) (by simp [results, Tryz.results96, go_sem]) rfl ?_
    have e1 : (1 + a.els.length + b.els.length) = (Tx.p a b).els.length := by simp only [Tx.els, Tx.ex, Ex.els, List.length_cons, List.length_append]; omega
    have h6 := HO5.out
    rw [app_nums', app_nums'] at h6
    rw [e1] at h6 ⊢
    exact ⟨A5, c5, by rw [← HQ.out]; simp, ownN_base h6 HB3.out.size, HB5.out⟩
end Go.Proofs.YtadmbphefpfbmaaGreatDoor
/- The reference's reader of programs: a text of one assignment. -/
namespace Go.Proofs.YtadmbphefpfbmaaGreatDoor
open Go.RowKit
set_option linter.unusedVariables false
set_option linter.unusedSimpArgs false
attribute [local go_sem ↓] Go.wp_at_zero Go.wp_at_succ
theorem bs_len (s : ByteArray) : s.size = s.data.toList.length := by rw [Array.length_toList]; rfl
theorem bsAt_of {s : ByteArray} {l : List Nat} (h : s.data.toList.map (·.toNat) = l) : BsAt s 0 l := by
  intro i c hi j hj
  rw [Nat.zero_add] at hj
  subst hj
  rw [← h, List.getElem?_map] at hi
  have hl : j < s.data.toList.length := by
    by_cases hc : j < s.data.toList.length
    · exact hc
    · rw [List.getElem?_eq_none (by omega)] at hi; cases hi
  have hs : j < s.size := by rw [bs_len]; exact hl
  refine ⟨hs, ?_⟩
  rw [List.getElem?_eq_getElem hl] at hi
  simp only [Option.map_some, Option.some.injEq] at hi
  rw [← hi]
  simp [ByteArray.getElem_eq_getElem_data]
/-- A text that the reference reads as an assignment. -/
structure SrcOk (x : Tx) (s : ByteArray) : Prop where
  bs : s.data.toList.map (·.toNat) = 48 :: 61 :: x.rn
  dp : x.deep ≤ 40
  l2 : x.rn.length ≤ 1000
theorem SrcOk.size {x : Tx} {s : ByteArray} (h : SrcOk x s) : s.size = x.rn.length + 2 := by
  have h1 := congrArg List.length h.bs
  rw [List.length_map, ← bs_len] at h1
  rw [h1]; simp
def AllSt (w : World) (x : Tx) (s : ByteArray) (at_ out : Value) (wr : World) : Prop :=
  (at_ = .int .i64 0 ∧ out = .slice (some ⟨w.heap.size, 0, none⟩) 0 0 ∧ wr.ownsRow w.heap.size 44 4 (.slice (some ⟨w.heap.size, 0, none⟩) 0 0) 0 [] ∧ Below w.heap.size w wr) ∨
  (∃ A1 c1, at_ = .int .i64 (s.size : Int) ∧ out = .slice A1 1 c1 ∧ CmdR w x A1 c1 wr ∧ Below w.heap.size w wr)
def TxtR (w : World) (x : Tx) (e : Ending) (w' : World) : Prop := ∃ A1 c1 n, e = .returned (.tuple #[.slice A1 1 c1, .int .i64 n, .bool true]) ∧ CmdR w x A1 c1 w' ∧ Below w.heap.size w w'
set_option maxHeartbeats 8000000 in
set_option maxRecDepth 100000 in
theorem readAll_any (x : Tx) (s : ByteArray) (hs : SrcOk x s) (w : World) :
    Calls Tryz.prog 62 #[.string s, .int .i64 0, .int .i64 80] w (TxtR w x) := by
  have hb := bsAt_of hs.bs
  have hsz := hs.size
  obtain ⟨h0, hc0⟩ := hb 0 48 rfl 0 rfl
  have HRX := Lib.hid (fun (w2 : World) => readExpr_any x w2 s 2 40 (fun i c hi j hj => hb (i + 2) c (by simpa using hi) j (by omega)) (by have := hs.dp; omega) (by omega) (by have := hs.l2; omega))
  rw [show 2 + x.rn.length = s.size by omega] at HRX
  have hsb : s.size ≤ 2000 := by have := hs.l2; omega
  have HLN : Hid (x.els.length ≤ 1000) := Lib.hid (by have h1 := x.els_rn; have := hs.l2; omega)
  obtain ⟨w1, hw1⟩ : ∃ w1, w1 = w.alloc (.cells #[] 44) := ⟨_, rfl⟩
  have hb1 : Below w.heap.size w w1 := by rw [hw1]; exact below_new _ _
  have HST : Hid (AllSt w x s (.int .i64 0) (.slice (some ⟨w.heap.size, 0, none⟩) 0 0) w1) := Lib.hid (.inl ⟨rfl, rfl, by rw [hw1]; exact ownN_lit w #[] 0 4 44 rfl (by omega), hb1⟩)
  clear hb hsz hs hb1
  go_enter Tryz.func62, Tryz.ntmps62
  go_upto_region 2 with fail
  rw [← hw1]
  clear hw1
  go_loopw [1, 9] (fun q v wr => Hid (AllSt w x s q v wr)) (fun _ v _ => 1 - sLenP v)
  case atStart => exact HST
  case round =>
    clear HST
    rcases hrel.out with ⟨rfl, rfl, ho0, hb0⟩ | ⟨A1, c1, rfl, rfl, hcm, hb0⟩
    · skip
      have HO0 := Lib.hid ho0; have HB0 := Lib.hid hb0
      clear hrel ho0 hb0
      have hlt : (0 : Int) < (s.size : Int) := by omega
      have hne : ¬ s = ByteArray.empty := fun e => by rw [e] at h0; exact absurd h0 (by decide)
      have HR2 := Lib.hid (HRX.out wr)
      clear HRX
      go_wp2_with (first
        | (go_at_call 96
           refine HR2.out.mono ?_
           rintro e w5 ⟨A5, c5, rfl, ho, hb⟩
           have HV5 := Lib.hid (ownN_base ho HB0.out.size)
           have HO5 := Lib.hid (ownN_below HO0.out hb (Nat.le_refl _))
           have HB5 : Hid (Below w.heap.size w w5) := Lib.hid (bqcP hb HB0.out)
           clear ho hb)
        | (at_builtin; go_must (refine wpList_app1N eltCm rfl _ _ rfl w5 w.heap.size (.slice (some ⟨w.heap.size, 0, none⟩) 0 0) 0 [] (by rfl) HO5.out #[.int .i64 0, .int .i64 0, .int .i64 0, .slice A5 x.els.length c5] rfl (by intro y hy; simp at hy; rcases hy with rfl | rfl <;> rfl) (by rfl) HB5.out.size (by omega) ?_); rintro A7 c7 w7 ho7 hb7 hg7
           have HO7 := Lib.hid ho7
           have HV7 := Lib.hid (own_ch HV5.out (ch_row hg7) (fun q h1 h2 => own_types HV5.out HO5.out (by decide) q h1 h2))
           have HB7 : Hid (Below w.heap.size w w7) := Lib.hid (HB5.out.trans hb7)
           clear ho7 hb7 hg7))
      go_roundw
      case rel => exact Lib.hid (.inr ⟨A7, c7, rfl, rfl, ⟨A5, c5, HO7.out, HV7.out⟩, HB7.out⟩)
      case measure => simp [sLenP]
    · skip
      have HCM := Lib.hid hcm; have HB0 := Lib.hid hb0
      clear hrel hcm hb0 HRX
      go_wp2_with fail
      refine bodyPost_ret (v := .tuple #[.slice A1 1 c1, .int .i64 (s.size : Int), .bool true]) (by simp [results, Tryz.results62, go_sem]) rfl ?_
      exact ⟨A1, c1, _, rfl, HCM.out, HB0.out⟩
set_option maxHeartbeats 400000 in
theorem l24Text_any (x : Tx) (s : ByteArray) (hs : SrcOk x s) (w : World) : Calls Tryz.prog 30 #[.string s] w (fun e w' => ∃ A1 c1, e = .returned (.slice A1 1 c1) ∧ CmdR w x A1 c1 w' ∧ Below w.heap.size w w') := by
  have H := Lib.hid (readAll_any x s hs w)
  clear hs
  go_enter Tryz.func30, Tryz.ntmps30
  go_wp2_with (go_at_call 62
               refine H.out.mono ?_
               rintro e w2 ⟨A2, c2, n, rfl, hcm, hb⟩
               have HC := Lib.hid hcm; have HB := Lib.hid hb
               clear hcm hb)
  go_ret
  exact ⟨A2, c2, rfl, HC.out, HB.out⟩
theorem src_tQuine : SrcOk tQuine ⟨#[48, 61, 104, 48]⟩ := ⟨by kernel_rfl, by decide, by decide⟩
theorem src_tFix : SrcOk tFix ⟨#[48, 61, 40, 40, 104, 48, 46, 104, 48, 41, 46, 116, 48, 41]⟩ := ⟨by kernel_rfl, by decide, by decide⟩
theorem src_tPlain : SrcOk tPlain ⟨#[48, 61, 116, 48]⟩ := ⟨by kernel_rfl, by decide, by decide⟩
end Go.Proofs.YtadmbphefpfbmaaGreatDoor
/- Texts of programs of one assignment (program). -/
namespace Go.Proofs.YtadmbphefpfbmaaGreatDoor
open Go.RowKit
set_option linter.unusedVariables false
set_option linter.unusedSimpArgs false
attribute [local go_sem ↓] Go.wp_at_zero Go.wp_at_succ
theorem step_app1S {P : Program} {ops : Array Oper} {o : Oper} {a : Act} {K : Act → World → Prop} {Q : Exit → Act → World → Prop} {E : Prop} {t e : TypeId} {z : Value} (hE : Elt P t e z) (hgd : o.guard = none) (s x : Operand)
    (ho : o.op = .call { callee := .builtin .append, args := #[s, x], argTypes := #[t, t] }) (W W' : World) (y : Value) (hW : W' = W.alloc (.cells #[y] e)) (base : Nat) (v : Value) (n : Nat) (vs : List Value) (hs : a.eval s = v) (hown : W.ownsRow base e 1 v n vs)
    (hy : y.oneCell' = true) (hx : a.eval x = .slice (some ⟨W.heap.size, 0, none⟩) 1 1) (hbase : base ≤ W.heap.size) (hn : n ≤ 1099511627776)
    (h : ∀ A c w', w'.ownsRow base e 1 (.slice A (n + 1) c) (n + 1) (vs ++ [y]) → W.grownBy w' v.ownBlock → K (a.put o.dst (.slice A (n + 1) c)) w') :
    if Region.wanted o (yielded ops a.tmps) = true then Oper.wp P o a W' K Q else E := by
  have hw : Region.wanted o (yielded ops a.tmps) = true := by simp [Region.wanted, hgd]
  rw [if_pos hw]
  subst hW
  obtain ⟨ht, hzc, i, hi, hz, hs1, hb⟩ := hE
  have hbn : (n + 1) * i.bytes ≤ (n + 1) * 24 := Nat.mul_le_mul_left _ hb
  obtain ⟨v', w', hrun, h2, h3, _⟩ := run_append_own (P := P) (W.alloc (.cells #[y] e)) base t o.type e i z 1 i.bytes ht hi hz hs1 rfl (by rw [hzc]; rfl) (by decide) v n vs (hown.alloc _) ⟨W.heap.size, 0, none⟩ 1 1 [y] rfl (cell_one_new _ _ _) (by simpa using hy) (by unfold maxLen; omega) (by omega) (by simp; omega)
  unfold Oper.wp
  obtain ⟨A, c, rfl, _, _⟩ := own_form h2
  simp [execOp, ho, resolve, invoke, builtin, hs, hx, hrun, Result.andThen]
  exact h A c w' h2 (grown_alloc_trans h3)
def Tx.line (x : Tx) : ByteArray := (⟨#[48]⟩ ++ ⟨#[61]⟩) ++ x.bs
/-- A list of texts in a variable's box. -/
def LsB (w : World) (lo B : Nat) (n : Nat) (vs : List Value) : Prop := ∃ A c, w.heap[B]? = some (.cells #[.slice A n c] 47 (0, 0)) ∧ w.ownsRow lo 9 1 (.slice A n c) n vs ∧ lo ≤ B
theorem LsB.below {w w' : World} {lo B n : Nat} {vs : List Value} (h : LsB w lo B n vs) (hb : Below w.heap.size w w') : LsB w' lo B n vs := by
  obtain ⟨A, c, h1, h2, h3⟩ := h
  exact ⟨A, c, blk_bel h1 hb, own_below h2 hb (Nat.le_refl _), h3⟩
set_option maxHeartbeats 4000000 in
set_option maxRecDepth 100000 in
theorem textClo_any (w : World) (lo B : Nat) (x : Tx) (Av : Option Addr) (m cv : Nat) (Ab : Value) (hls : LsB w lo B 0 []) (hr : RdE w Av m x.els) (hm : m ≤ 1000) (hmc : m ≤ cv) (hlo : lo ≤ w.heap.size) :
    Calls Tryz.prog 177 #[.agg #[.int .i64 0, .int .i64 0, .int .i64 0, .slice Av m cv], Ab, .pointer (some ⟨B, 0, none⟩)] w (fun e w' => e = .returned (.tuple #[]) ∧ LsB w' lo B 1 [.string x.line] ∧ Below lo w w') := by
  obtain ⟨A0, c0, hx, ho, hlB⟩ := hls
  have HS : Hid (x.bs.size ≤ 5000) := Lib.hid (by have h1 := x.bs_size; have h2 := rdE_len hr; omega)
  have hbb := below_new w (.cells #[.int .i64 0, .int .i64 0, .int .i64 0, .slice Av m cv] 44)
  have hbx := box_new w #[.int .i64 0, .int .i64 0, .int .i64 0, .slice Av m cv] 44
  obtain ⟨w1, hw1⟩ : ∃ w1, w1 = w.alloc (.cells #[.int .i64 0, .int .i64 0, .int .i64 0, .slice Av m cv] 44) := ⟨_, rfl⟩
  rw [← hw1] at hbb hbx
  have HX := Lib.hid (blk_bel hx hbb)
  have HO := Lib.hid (own_below ho hbb (Nat.le_refl _))
  have HBX := Lib.hid hbx
  have HBB : Hid (Below lo w w1) := Lib.hid (hbb.mono hlo)
  have HT := Lib.hid (exprText_any x w1.drew Av m cv (show RdE w1 Av m x.els from hr.below hbb (Nat.le_refl _)) hm hmc)
  have HLB := Lib.hid hlB
  have HLO : Hid (lo ≤ w1.heap.size) := Lib.hid (Nat.le_trans hlo hbb.size)
  clear hx ho hbx hbb hr hlB hlo hm hmc
  go_enter Tryz.func177, Tryz.ntmps177
  go_upto_region 1 with fail
  rw [← hw1]
  clear hw1
  have z0 := blk_cell HBX.out 0 rfl
  have z1 := blk_cell HBX.out 1 rfl
  have z3 := blk_cell HBX.out 3 rfl
  have b0 := blk_cell HX.out 0 rfl
  have f0 := blk_free HX.out 0
  have hs : ¬ (9223372036854775807 < 2 + x.bs.size) := by have := HS.out; omega
  go_wp2_with fail
  (first | (go_region_law (first
    | (go_simp; go_at_call 104
       refine (decimal0_any _).mono ?_
       rintro e w' ⟨rfl, rfl⟩)
    | (refine step_app1S eltStr (by rfl) _ _ (by rfl) w4 _ (.string x.line) (by rfl) lo (.slice A0 0 c0) 0 [] (by rfl) (by exact HO4.out) (by rfl) (by rfl) (by exact HL4.out) (by omega) ?_
       intro A9 c9 w9 ho9 hg9
       have HO9 := Lib.hid ho9
       have HX9 := Lib.hid (blk_ch HX4.out (ch_row hg9) (fun hf => by
         obtain ⟨cs, h1⟩ := own_foP HO4.out hf
         exact blk_ne HX4.out h1 (by decide) rfl))
       have HB9 : Hid (Below lo w w9) := Lib.hid (below_ch HB4.out (ch_row hg9) (fun q hq => (HO4.out.lt q hq).1) HL4.out)
       have HL9 : Hid (lo ≤ w9.heap.size) := Lib.hid (Nat.le_trans HL4.out hg9.size)
       have b0 := blk_cell HX9.out 0 rfl
       have f0 := blk_free HX9.out 0
       clear ho9 hg9)
    | (go_simp; go_at_call 66
       refine HT.out.mono ?_
       rintro e w4 ⟨rfl, hb4⟩
       replace hb4 : Below w1.heap.size w1 w4 := und1 hb4
       have HX4 := Lib.hid (blk_bel HX.out hb4)
       have HBX4 := Lib.hid (blk_bel HBX.out hb4)
       have HO4 := Lib.hid (own_below HO.out hb4 (Nat.le_refl _))
       have HB4 : Hid (Below lo w w4) := Lib.hid (HBB.out.trans (hb4.mono HLO.out))
       have HL4 : Hid (lo ≤ w4.heap.size) := Lib.hid (Nat.le_trans HLO.out hb4.size)
       have z0 := blk_cell HBX4.out 0 rfl
       have z1 := blk_cell HBX4.out 1 rfl
       have z3 := blk_cell HBX4.out 3 rfl
       have b0 := blk_cell HX4.out 0 rfl
       have f0 := blk_free HX4.out 0
       have b0a := blk_cell (blk_alloc HX4.out (.cells #[.string ((⟨#[48]⟩ ++ ⟨#[61]⟩) ++ x.bs)] 9)) 0 rfl
       have hl4 := blk_lt HX4.out
       clear hb4))) | fail)
  all_goals
    clear hs
    go_wp2_with fail
    go_end0
    refine ⟨rfl, ⟨A9, c9, ?_, ?_, HLB.out⟩, ?_⟩
    · simpa using blk_set HX9.out 0 (.slice A9 1 c9)
    · exact own_ch HO9.out (ch_set _ _ _ _) (fun q hq e => by
        obtain ⟨cs, h1⟩ := own_foP HO9.out hq
        have e2 : q = B := e
        subst e2
        exact blk_ne HX9.out h1 (by decide) rfl)
    · exact below_ch HB9.out (ch_set _ B 0 _) (fun q e => by rw [e]; exact HLB.out) HL9.out
end Go.Proofs.YtadmbphefpfbmaaGreatDoor
/- Programs of one assignment out of their texts (program). -/
namespace Go.Proofs.YtadmbphefpfbmaaGreatDoor
open Go.RowKit
set_option linter.unusedVariables false
set_option linter.unusedSimpArgs false
attribute [local go_sem ↓] Go.wp_at_zero Go.wp_at_succ
/-- A slice that reads as the command of a text. -/
def RdK (w : World) (A : Option Addr) (c : Nat) (x : Tx) : Prop := RdC w A 1 [x.cmd] ∧ 1 ≤ c
theorem CmdR.rdc {w w' : World} {x : Tx} {A1 : Option Addr} {c1 : Nat} (h : CmdR w x A1 c1 w') (hl : x.els.length ≤ 1000) : RdC w' A1 1 [x.cmd] := by
  obtain ⟨Av, cv, h1, h2⟩ := h
  have h3 : InnerC w' (fun k => Fo (.slice Av x.els.length cv) k) [.slice Av x.els.length cv] [x.cmd] := InnerC.one (x := x.cmd) h2 (by omega) (fun k hk => hk)
  exact h3.rdc (ownN_rd h1)
set_option maxHeartbeats 4000000 in
set_option maxRecDepth 100000 in
theorem blocksT_any (w0 w : World) (hb0 : Below w0.heap.size w0 w) (A : Option Addr) (c : Nat) (x : Tx) (hr : RdC w0 A 1 [x.cmd]) (hc : 1 ≤ c) (hl : x.els.length ≤ 1000) (B : Nat) (hls : LsB w w0.heap.size B 0 []) :
    Calls Tryz.prog 164 #[.slice A 1 c, .func (.func 177) #[] #[.pointer (some ⟨B, 0, none⟩)]] w (fun e w' => e = .returned (.tuple #[]) ∧ LsB w' w0.heap.size B 1 [.string x.line] ∧ Below w0.heap.size w0 w') := by
  obtain ⟨b, off, A', n', c', rfl, hbs, q0, q1, q2, q3, hn', hc', hre⟩ := hr.at_ (k := 0) (x := x.cmd) rfl
  simp only [Nat.zero_mul, Nat.add_zero, Tx.cmd] at q0 q1 q2 q3 hre
  have hn1000 : n' ≤ 1000 := by have := rdE_len hre; omega
  have HLS := Lib.hid hls; have HB0 := Lib.hid hb0
  have HQ := Lib.hid (And.intro q0 (And.intro q1 (And.intro q2 q3)))
  have HBS := Lib.hid hbs
  have HE := Lib.hid (And.intro hre (And.intro hn1000 hc'))
  clear hr hls hb0 q0 q1 q2 q3 hre hn1000 hn' hc' hl hbs
  go_enter Tryz.func164, Tryz.ntmps164
  go_wp2_with fail
  go_loopw [4] (fun q wr => (q = .int .i64 0 ∧ Hid (LsB wr w0.heap.size B 0 []) ∧ Hid (Below w0.heap.size w0 wr)) ∨ (q = .int .i64 1 ∧ Hid (LsB wr w0.heap.size B 1 [.string x.line]) ∧ Hid (Below w0.heap.size w0 wr))) (fun q _ => 1 - (intOf q).toNat)
  case atStart => exact .inl ⟨rfl, HLS, HB0⟩
  case round =>
    clear HLS HB0
    rcases hrel with ⟨rfl, HL, HB⟩ | ⟨rfl, HL, HB⟩
    · skip
      have q0 := (HB.out.cell (p := ⟨b, off, none⟩) HBS.out).trans HQ.out.1
      have q1 := (HB.out.cell (p := ⟨b, off + 1, none⟩) HBS.out).trans HQ.out.2.1
      have q2 := (HB.out.cell (p := ⟨b, off + 2, none⟩) HBS.out).trans HQ.out.2.2.1
      have q3 := (HB.out.cell (p := ⟨b, off + 3, none⟩) HBS.out).trans HQ.out.2.2.2
      have HCL := Lib.hid (fun (Ab : Value) => textClo_any wr w0.heap.size B x A' n' c' Ab HL.out (HE.out.1.below HB.out (Nat.le_refl _)) HE.out.2.1 HE.out.2.2 HB.out.size)
      have g2 : (1 : Int) ≤ (c : Int) := by omega
      by_cases hck : c = 1
      · skip
        subst hck
        go_wp2_with (go_at_call 177
                     refine (HCL.out _).mono ?_
                     rintro e w2 ⟨rfl, hl2, hb2⟩
                     have HL2 := Lib.hid hl2
                     have HB2 := Lib.hid (HB.out.trans hb2)
                     clear hl2 hb2)
        go_roundw
        case rel => exact .inr ⟨by go_num, HL2, HB2⟩
        case measure => simp [intOf]
      · skip
        have g3 : 1 < c := by omega
        go_wp2_with (go_at_call 177
                     refine (HCL.out _).mono ?_
                     rintro e w2 ⟨rfl, hl2, hb2⟩
                     have HL2 := Lib.hid hl2
                     have HB2 := Lib.hid (HB.out.trans hb2)
                     clear hl2 hb2)
        go_roundw
        case rel => exact .inr ⟨by go_num, HL2, HB2⟩
        case measure => simp [intOf]
    · skip
      go_wp2_with fail
      go_end0
      exact ⟨rfl, HL.out, HB.out⟩
set_option maxHeartbeats 1000000 in
theorem joinOne_any (w : World) (A : Option Addr) (c : Nat) (s : ByteArray) (sep : Value) (hr : Rd w A 1 [.string s]) : Calls Tryz.prog 178 #[.slice A 1 c, sep] w fun e w' => e = .returned (.string s) ∧ w = w' := by
  obtain ⟨b, off, rfl, hb, hc⟩ := hr.2 (by omega)
  have q0 := hc 0 _ rfl
  rw [Nat.add_zero] at q0
  clear hc hr
  go_enter Tryz.func178, Tryz.ntmps178
  go_wp2_with fail
  go_ret
  exact ⟨rfl, rfl⟩
set_option maxHeartbeats 2000000 in
theorem whileTextT_any (w : World) (A : Option Addr) (c : Nat) (x : Tx) (hr : RdC w A 1 [x.cmd]) (hc : 1 ≤ c) (hl : x.els.length ≤ 1000) :
    Calls Tryz.prog 141 #[.slice A 1 c] w (RetV w (.string x.line)) := by
  obtain ⟨wa, hwa⟩ : ∃ wa, wa = w.alloc (.cells #[] 9) := ⟨_, rfl⟩
  obtain ⟨w1, hw1⟩ : ∃ w1, w1 = wa.alloc (.cells #[.slice (some ⟨w.heap.size, 0, none⟩) 0 0] 47) := ⟨_, rfl⟩
  have hba : Below w.heap.size w wa := by rw [hwa]; exact below_new _ _
  have hb1 : Below w.heap.size w w1 := by rw [hw1]; exact hba.alloc hba.size _
  have sa : wa.heap.size = w.heap.size + 1 := by rw [hwa]; simp
  have hls : LsB w1 w.heap.size (w.heap.size + 1) 0 [] := by
    refine ⟨some ⟨w.heap.size, 0, none⟩, 0, ?_, ?_, by omega⟩
    · rw [hw1, ← sa]; exact box_new _ _ _
    · rw [hw1]
      have h := own_lit w #[] 0 9 rfl (by omega)
      rw [← hwa] at h
      exact own_below h (below_new _ _) (Nat.le_refl _)
  have HB := Lib.hid (blocksT_any w w1 hb1 A c x hr hc hl (w.heap.size + 1) hls)
  have hW : w1 = (w.alloc (.cells #[] 9)).alloc (.cells #[.slice (some ⟨w.heap.size, 0, none⟩) 0 0] 47) := by rw [hw1, hwa]
  clear hwa hw1 hba hb1 sa hls hr
  go_enter Tryz.func141, Tryz.ntmps141
  go_upto_region 2 with fail
  rw [← hW]
  clear hW
  go_upto_region 3 with (go_at_call 164
                         refine HB.out.mono ?_
                         rintro e w2 ⟨rfl, ⟨A2, c2, hx2, ho2, -⟩, hb2⟩
                         have HO2 := Lib.hid (own_rd ho2)
                         have HB2 := Lib.hid hb2
                         have x0 := blk_cell hx2 0 rfl
                         clear ho2 hb2 hx2)
  go_wp2_with (go_at_call 178; refine (joinOne_any _ _ _ _ _ HO2.out).mono ?_; rintro e w' ⟨rfl, rfl⟩)
  go_ret
  exact ⟨rfl, HB2.out⟩
theorem tx_isW {x : Tx} (h : x.els.length ≤ 40) : isW [x.cmd] = true := by
  have h1 : okC [x.cmd] = true := by
    rw [okC_set (Tx.wf h) rfl, okC_nil]; rfl
  simp [isW, h1]
set_option maxHeartbeats 1000000 in
theorem WhileTextT_any (w : World) (A : Option Addr) (c : Nat) (x : Tx) (hr : RdC w A 1 [x.cmd]) (hc : 1 ≤ c) (hl : x.els.length ≤ 40) :
    Calls Tryz.prog 98 #[.slice A 1 c] w (RetV w (.string x.line)) := by
  have H1 := ValidWhile_any w A 1 c [x.cmd] hr (by omega) hc
  rw [tx_isW hl] at H1
  replace H1 := Lib.hid H1
  have H2 := Lib.hid (fun (w2 : World) (hb : Below w.heap.size w w2) => whileTextT_any w2 A c x (hr.below hb (Nat.le_refl _)) hc (by omega))
  clear hr hc hl
  go_enter Tryz.func98, Tryz.ntmps98
  go_wp2_with (first
    | (go_at_call 94
       refine H1.out.mono ?_
       rintro e w2 ⟨rfl, hb2⟩
       have HB2 := Lib.hid hb2
       have H22 := Lib.hid (H2.out w2 hb2)
       clear hb2)
    | (go_at_call 141
       refine H22.out.mono ?_
       rintro e w3 ⟨rfl, hb3⟩
       have HB3 := Lib.hid (bqcP hb3 HB2.out)
       clear hb3))
  go_ret
  exact ⟨rfl, HB3.out⟩
def toBS (l : List Nat) : ByteArray := ⟨(l.map UInt8.ofNat).toArray⟩
/-- The text of an assignment. -/
abbrev Tx.src (x : Tx) : ByteArray := toBS (48 :: 61 :: x.rn)
end Go.Proofs.YtadmbphefpfbmaaGreatDoor
/- Programs of one assignment read from their texts (program). -/
namespace Go.Proofs.YtadmbphefpfbmaaGreatDoor
open Go.RowKit
set_option linter.unusedVariables false
set_option linter.unusedSimpArgs false
attribute [local go_sem ↓] Go.wp_at_zero Go.wp_at_succ
/-- What the reader leaves: the command of the text. -/
def WhP (w : World) (x : Tx) (A : Option Addr) (c : Nat) (w' : World) : Prop := RdC w' A 1 [x.cmd] ∧ 1 ≤ c ∧ Below w.heap.size w w'
set_option maxHeartbeats 4000000 in
set_option maxRecDepth 100000 in
theorem ReadWhile_any (x : Tx) (s : ByteArray) (hru : Conv.runesFrom s s.size 0 #[] = (runesV (48 :: 61 :: x.rn)).toArray) (hli : x.line = s) (hl : x.els.length ≤ 40) (hrl : x.rn.length ≤ 1000) (w : World) :
    Calls Tryz.prog 63 #[.string s] w (fun e w' => ∃ A c, e = .returned (.tuple #[.slice A 1 c, .bool true]) ∧ WhP w x A c w') := by
  have hcv0 := fun (w : World) => run_runes_of_string (P := Tryz.prog) w 9 145 21 s Tryz.underlying9 Tryz.underlying145 Tryz.underlying21 (by rw [hru]; simp; omega)
  rw [hru] at hcv0
  have hsz : (runesV (48 :: 61 :: x.rn)).toArray.size = x.rn.length + 2 := by simp
  rw [hsz] at hcv0
  have hcv := hcv0 w
  have hge : x.rn.length + 2 ≤ grownCap w (x.rn.length + 2) 0 21 := grownCap_ge w _ _ _
  generalize grownCap w (x.rn.length + 2) 0 21 = G at hcv hge
  obtain ⟨w1, hw1⟩ : ∃ w1, w1 = w.drew.alloc (.cells ((runesV (48 :: 61 :: x.rn)).toArray ++ Array.replicate (G - (x.rn.length + 2)) (.int .i32 0)) 21) := ⟨_, rfl⟩
  rw [← hw1] at hcv
  obtain ⟨w2, hw2⟩ : ∃ w2, w2 = w1.alloc (.cells #[.slice (some ⟨w.heap.size, 0, none⟩) (x.rn.length + 2) G, .bool false, .int .i64 3200] 147) := ⟨_, rfl⟩
  have hb1 : Below w.heap.size w w1 := by rw [hw1]; exact below_undrew (below_new w.drew _)
  have s1 : w1.heap.size = w.heap.size + 1 := by rw [hw1]; exact (show (w.drew.alloc _).heap.size = w.drew.heap.size + 1 by simp)
  have hb2 : Below w.heap.size w w2 := by rw [hw2]; exact hb1.alloc hb1.size _
  have hRd : Rd w1 (some ⟨w.heap.size, 0, none⟩) (x.rn.length + 2) (runesV (48 :: 61 :: x.rn)) := by
    refine ⟨by simp, fun _ => ⟨w.heap.size, 0, rfl, by omega, fun j u hu => ?_⟩⟩
    have hbx : w1.heap[w.heap.size]? = some (.cells ((runesV (48 :: 61 :: x.rn)).toArray ++ Array.replicate (G - (x.rn.length + 2)) (.int .i32 0)) 21 (0, 0)) := by rw [hw1]; exact box_new w.drew _ _
    rw [Nat.zero_add]
    refine blk_cell hbx j ?_
    have hj := (List.getElem?_eq_some_iff.1 hu).1
    rw [Array.getElem?_append_left (by simpa using hj)]
    simpa using hu
  have HR2 : Hid (Rdr w2 w1.heap.size (w.heap.size + 1) (some ⟨w.heap.size, 0, none⟩) (x.rn.length + 2) G (48 :: 61 :: x.rn) 3200) := Lib.hid ⟨by rw [hw2]; exact box_new _ _ _, by rw [hw2]; exact hRd.alloc _, fun _ b off e => by injection e with e; injection e with e1; omega, hge, fun b off _ e => by injection e with e; injection e with e1; omega⟩
  have HB2 := Lib.hid hb2
  have HS1 : Hid (w.heap.size ≤ w1.heap.size) := Lib.hid (by omega)
  have HLI := Lib.hid hli
  have HCM := Lib.hid (commands_any x w2 w1.heap.size (w.heap.size + 1) _ _ _ 3200 HR2.out (by omega) (by omega) (by rw [hw2]; simp; omega))
  have HLL := Lib.hid hl
  clear hru hcv0 hsz hge hb1 s1 hb2 hRd hli hrl hl hw1
  go_enter Tryz.func63, Tryz.ntmps63
  go_upto_region 2 with fail
  rw [← hw2]
  clear hw2 hcv
  go_upto_region 3 with (go_at_call 97
                         refine HCM.out.mono ?_
                         rintro e w3 ⟨A3, c3, rfl, hcm, ⟨A4, n4, c4, hr4⟩, hc3⟩
                         have HB3 : Hid (Below w.heap.size w w3) := Lib.hid (below_ch HB2.out hc3 (fun q e => by have e1 : q = w1.heap.size := e; have h1 := HS1.out; omega) HB2.out.size)
                         have HRC := Lib.hid (hcm.rdc (by have := HLL.out; omega))
                         have HC1 : Hid (1 ≤ c3) := Lib.hid (by obtain ⟨_, _, h, _⟩ := hcm; exact ownN_cap h)
                         have x1 := blk_cell hr4.box 1 rfl
                         clear hcm hr4 hc3)
  have HT := Lib.hid (WhileTextT_any w3 A3 c3 x HRC.out HC1.out HLL.out)
  go_wp2_with (go_at_call 98
               refine HT.out.mono ?_
               rintro e w4 ⟨rfl, hb4⟩
               rw [HLI.out]
               have HB4 := Lib.hid (bqcP hb4 HB3.out)
               have HRC4 := Lib.hid (HRC.out.below hb4 (Nat.le_refl _))
               clear hb4)
  go_ret2
  exact ⟨A3, c3, rfl, HRC4.out, HC1.out, HB4.out⟩
set_option maxHeartbeats 400000 in
theorem whileOf_any (x : Tx) (s : ByteArray) (hru : Conv.runesFrom s s.size 0 #[] = (runesV (48 :: 61 :: x.rn)).toArray) (hli : x.line = s) (hl : x.els.length ≤ 40) (hrl : x.rn.length ≤ 1000) (w : World) :
    Calls Tryz.prog 32 #[.string s] w (fun e w' => ∃ A c, e = .returned (.slice A 1 c) ∧ WhP w x A c w') := by
  have H := Lib.hid (ReadWhile_any x s hru hli hl hrl w)
  clear hru hli hl hrl
  go_enter Tryz.func32, Tryz.ntmps32
  go_wp2_with (go_at_call 63
               refine H.out.mono ?_
               rintro e w2 ⟨A2, c2, rfl, hw⟩
               have HW := Lib.hid hw
               clear hw)
  go_ret
  exact ⟨A2, c2, rfl, HW.out⟩
end Go.Proofs.YtadmbphefpfbmaaGreatDoor
/- slices.Grow of nil and slices.Concat on slices of commands. -/
namespace Go.Proofs.YtadmbphefpfbmaaGreatDoor
open Go.RowKit
set_option linter.unusedVariables false
set_option linter.unusedSimpArgs false
def GrC (w : World) (e : Ending) (w' : World) : Prop := ∃ A c, e = .returned (.slice A 0 c) ∧ w'.ownsRow w.heap.size 44 4 (.slice A 0 c) 0 [] ∧ Below w.heap.size w w'
set_option maxHeartbeats 4000000 in
set_option maxRecDepth 100000 in
theorem growC_any (w : World) (n : Nat) (hn : n ≤ 1000000000) : Calls Tryz.prog 61 #[.slice none 0 0, .int .i64 n] w (GrC w) := by
  rcases Nat.eq_zero_or_pos n with h0 | h0
  · subst h0
    go_enter Tryz.func61, Tryz.ntmps61
    go_wp2_with fail
    go_ret
    exact ⟨none, 0, rfl, ownN_nil _ _ _ _, Below.refl _ _⟩
  · have h1 : ¬ ((n : Int) < 0) := by omega
    have h4 : (0 : Int) < (n : Int) := by omega
    obtain ⟨i, hi, hz, hs, hb⟩ := info_parts infoCm
    have hrz : ∀ ty, (Builtin.append_ #[28, 3] ty #[.slice none 0 0, .int .i64 (n : Int)]).run Tryz.prog w = .ok (.slice (some ⟨w.heap.size, 0, none⟩) n (grownCap w n 0 44)) (w.drew.alloc (.cells (Builtin.zeroCells (Value.agg #[.int .i64 0, .int .i64 0, .int .i64 0, .slice none 0 0]).cells n ++ Builtin.zeroCells (Value.agg #[.int .i64 0, .int .i64 0, .int .i64 0, .slice none 0 0]).cells (grownCap w n 0 44 - n)) 44)) := fun ty =>
      Lib.run_append_nil_zeros w 28 3 ty 44 i _ .i64 .i64 Tryz.underlying28 Tryz.underlying3 hi hz n h0 (by rw [hs]; decide) (by omega) (by rw [hb]; omega)
    have hge : n ≤ grownCap w n 0 44 := grownCap_ge w _ _ _
    have hmx := grownCap_le_maxLen w n 0 44 (by unfold maxLen; omega)
    have HZ : Hid ((Builtin.zeroCells (Value.agg #[.int .i64 0, .int .i64 0, .int .i64 0, .slice none 0 0]).cells n ++ Builtin.zeroCells (Value.agg #[.int .i64 0, .int .i64 0, .int .i64 0, .slice none 0 0]).cells (grownCap w n 0 44 - n)).size = grownCap w n 0 44 * 4) := Lib.hid (by
      rw [Array.size_append, size_zeroCells, size_zeroCells]
      show n * 4 + (grownCap w n 0 44 - n) * 4 = _
      omega)
    generalize grownCap w n 0 44 = G at *
    generalize Builtin.zeroCells (Value.agg #[.int .i64 0, .int .i64 0, .int .i64 0, .slice none 0 0]).cells n ++ Builtin.zeroCells (Value.agg #[.int .i64 0, .int .i64 0, .int .i64 0, .slice none 0 0]).cells (G - n) = cs at *
    have HH : Hid ((w.drew.alloc (.cells cs 44)).heap[w.heap.size]? = some (.cells cs 44 (0, 0))) := Lib.hid (box_new w.drew cs _)
    have HBW : Hid (Below w.heap.size w (w.drew.alloc (.cells cs 44))) := Lib.hid (below_undrew (below_new w.drew (.cells cs 44)))
    have HMX := Lib.hid hmx
    have hG9 : G ≤ 9223372036854775807 := by unfold maxLen at hmx; omega
    clear hi hz hs hb hmx
    go_enter Tryz.func61, Tryz.ntmps61
    go_wp2_with (at_builtin; go_must (refine Lib.wpList_append_run _ rfl _ _ _ _ rfl _ _ (by rfl) (by rfl) _ _ (hrz _) ?_))
    go_ret
    exact ⟨_, G, rfl, ⟨rfl, .inr ⟨w.heap.size, G, cs, rfl, Nat.le_refl _, HH.out, Nat.zero_le _, HMX.out, HZ.out, by simp⟩⟩, HBW.out⟩
/-- A slice of slices of commands that reads as lists of cells. -/
def RdV (w : World) (A : Option Addr) (n : Nat) (pss : List (Nat × List Value)) : Prop :=
  ∃ vs : List Value, Rd w A n vs ∧ vs.length = pss.length ∧ ∀ (j : Nat) (v : Value) (y : Nat × List Value), vs[j]? = some v → pss[j]? = some y → ∃ A' c', v = .slice A' y.1 c' ∧ Rd w A' (y.1 * 4) y.2 ∧ ∀ u ∈ y.2, u.oneCell' = true
theorem RdV.len {w : World} {A : Option Addr} {n : Nat} {pss : List (Nat × List Value)} (h : RdV w A n pss) : pss.length = n := by
  obtain ⟨vs, h1, h2, _⟩ := h; rw [← h2, h1.1]
theorem RdV.at_ {w : World} {A : Option Addr} {n k : Nat} {pss : List (Nat × List Value)} {y : Nat × List Value} (h : RdV w A n pss) (hx : pss[k]? = some y) :
    ∃ b off A' c', A = some ⟨b, off, none⟩ ∧ b < w.heap.size ∧ w.cell? ⟨b, off + k, none⟩ = some (.slice A' y.1 c') ∧ Rd w A' (y.1 * 4) y.2 ∧ ∀ u ∈ y.2, u.oneCell' = true := by
  obtain ⟨vs, h1, h2, h3⟩ := h
  have hk : k < vs.length := by rw [h2]; exact (List.getElem?_eq_some_iff.1 hx).1
  obtain ⟨v, hv⟩ := get_some hk
  obtain ⟨A', c', rfl, hr', ho'⟩ := h3 k v y hv hx
  obtain ⟨b, off, e, hb, hc⟩ := h1.at_ hv
  exact ⟨b, off, A', c', e, hb, hc, hr', ho'⟩
def sumN : List (Nat × List Value) → Nat
  | [] => 0
  | y :: r => y.1 + sumN r
def catV (pss : List (Nat × List Value)) : List Value := (pss.map Prod.snd).flatten
theorem sumN_app : ∀ a b : List (Nat × List Value), sumN (a ++ b) = sumN a + sumN b
  | [], b => by simp [sumN]
  | y :: r, b => by simp only [List.cons_append, sumN, sumN_app r b]; omega
theorem sumN_step {pss : List (Nat × List Value)} {k : Nat} {y : Nat × List Value} (h : pss[k]? = some y) : sumN (pss.take (k + 1)) = sumN (pss.take k) + y.1 := by
  rw [List.take_add_one, h, sumN_app]; simp [sumN]
theorem catV_step {pss : List (Nat × List Value)} {k : Nat} {y : Nat × List Value} (h : pss[k]? = some y) : catV (pss.take (k + 1)) = catV (pss.take k) ++ y.2 := by
  rw [List.take_add_one, h]; simp [catV]
theorem sumN_le (pss : List (Nat × List Value)) (k : Nat) : sumN (pss.take k) ≤ sumN pss := by
  have h : sumN (pss.take k ++ pss.drop k) = sumN (pss.take k) + sumN (pss.drop k) := sumN_app _ _
  rw [List.take_append_drop] at h
  omega
set_option maxHeartbeats 4000000 in
set_option maxRecDepth 100000 in
theorem concatC_any (w : World) (A : Option Addr) (n c : Nat) (pss : List (Nat × List Value)) (hr : RdV w A n pss) (hn : n ≤ 1000000) (ht : sumN pss ≤ 1000000000) : Calls Tryz.prog 28 #[.slice A n c] w (fun e w' => ∃ A' c', e = .returned (.slice A' (sumN pss) c') ∧ w'.ownsRow w.heap.size 44 4 (.slice A' (sumN pss) c') (sumN pss) (catV pss) ∧ Below w.heap.size w w') := by
  have HL : Hid (pss.length = n) := Lib.hid hr.len
  have HSL := Lib.hid (sumN_le pss)
  obtain ⟨TT, hTT⟩ : ∃ T, T = sumN pss := ⟨_, rfl⟩
  rw [← hTT] at ht HSL ⊢
  have HTT := Lib.hid hTT
  clear hTT
  go_enter Tryz.func28, Tryz.ntmps28
  go_wp2_with fail
  go_loop [3, 11] (fun q i => ∃ k S : Nat, k ≤ n ∧ i = .int .i64 k ∧ q = .int .i64 (S : Int) ∧ Hid (S = sumN (pss.take k))) (fun _ i => n - (intOf i).toNat)
  case atStart => exact ⟨0, 0, by omega, rfl, rfl, Lib.hid rfl⟩
  case round =>
    obtain ⟨k, S, hk, rfl, rfl, HSS⟩ := hrel
    by_cases hlt : k < n
    · have hlt' : (k : Int) < (n : Int) := by omega
      obtain ⟨y, hy⟩ := get_some (xs := pss) (k := k) (by rw [HL.out]; exact hlt)
      obtain ⟨b, off, A', c', rfl, hbs, hc, hrr, hoo⟩ := hr.at_ hy
      have HS : Hid (sumN (pss.take (k + 1)) = S + y.1) := Lib.hid (by rw [sumN_step hy, HSS.out])
      have hle := HSL.out (k + 1)
      rw [HS.out] at hle
      clear hy hrr hoo
      obtain ⟨n', ys⟩ := y
      simp only at hc hle HS
      have hS : ¬ (((S : Int) + (n' : Int)) < 0) := by omega
      go_wp2_with fail
      go_round
      case rel => exact ⟨k + 1, S + n', by omega, by go_num, by go_num, Lib.hid HS.out.symm⟩
      case measure => simp [intOf]; omega
    · obtain rfl : k = n := by omega
      have HT : Hid (S = TT) := Lib.hid (by rw [HSS.out, HTT.out, List.take_of_length_le (by rw [HL.out]; omega)])
      rw [HT.out]
      clear HSS
      go_wp2_with fail
      refine (growC_any _ TT ht).mono ?_
      rintro e w2 ⟨A2, c2, rfl, ho2, hb2⟩
      go_wp2_with fail
      go_loopw [6, 27] (fun q i wr => ∃ (j : Nat) (A3 : Option Addr) (c3 m : Nat), j ≤ k ∧ i = .int .i64 j ∧ q = .slice A3 m c3 ∧ Hid (m = sumN (pss.take j)) ∧ wr.ownsRow w.heap.size 44 4 (.slice A3 m c3) m (catV (pss.take j)) ∧ Below w.heap.size w wr) (fun _ i _ => k - (intOf i).toNat)
      case atStart => exact ⟨0, A2, c2, 0, by omega, rfl, rfl, Lib.hid rfl, ho2, hb2⟩
      case round =>
        clear ho2 hb2
        obtain ⟨j, A3, c3, m, hj, rfl, rfl, HM, ho3, hb3⟩ := hrel
        by_cases hlt : j < k
        · have hlt' : (j : Int) < (k : Int) := by omega
          obtain ⟨y, hy⟩ := get_some (xs := pss) (k := j) (by rw [HL.out]; exact hlt)
          obtain ⟨b, off, A', c', rfl, hbs, hc, hrr, hoo⟩ := hr.at_ hy
          have hc' := (hb3.cell (p := ⟨b, off + j, none⟩) hbs).trans hc
          have HS : Hid (catV (pss.take (j + 1)) = catV (pss.take j) ++ y.2) := Lib.hid (catV_step hy)
          have HS2 : Hid (sumN (pss.take (j + 1)) = m + y.1) := Lib.hid (by rw [sumN_step hy, HM.out])
          have hle := HSL.out (j + 1)
          rw [HS2.out] at hle
          have HR := Lib.hid (hrr.below hb3 (Nat.le_refl _))
          have HOO := Lib.hid hoo
          clear hy hc hrr hoo
          obtain ⟨n', ys⟩ := y
          simp only at hc' hle HS HS2 HR HOO
          go_wp2_with (at_builtin; go_must (refine wpList_appSN eltCm rfl _ _ rfl wr w.heap.size _ m _ (by rfl) ho3 A' n' c' ys (by rfl) (by exact HR.out) HOO.out hb3.size (by omega) ?_); rintro A4 c4 w4 ho4 hb4 hg4)
          rw [← HS.out] at ho4
          go_roundw
          case rel => exact ⟨j + 1, A4, c4, m + n', by omega, by go_num, rfl, Lib.hid HS2.out.symm, ho4, hb3.trans hb4⟩
          case measure => simp [intOf]; omega
        · obtain rfl : j = k := by omega
          have HE : Hid (pss.take j = pss) := Lib.hid (List.take_of_length_le (by rw [HL.out]; omega))
          go_wp2_with fail
          go_ret
          have hm : m = TT := by rw [HM.out, HE.out, HTT.out]
          subst hm
          rw [HE.out] at ho3
          exact ⟨A3, c3, rfl, ho3, hb3⟩
end Go.Proofs.YtadmbphefpfbmaaGreatDoor
