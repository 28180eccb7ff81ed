/- The reader of programs: runes, digits, expressions of one variable (program). Printed by mk_pke.py. -/
import Derived.Test.YtaadobggenbbdaaGreatDoorPkA
import Derived.Deep.DrawnRows
namespace Go.Proofs.YtaadobggenbbdaaGreatDoor
open Go.RowKit
set_option linter.unusedVariables false
set_option linter.unusedSimpArgs false
attribute [local go_sem ↓] Go.wp_at_zero Go.wp_at_succ
abbrev runesV (rs : List Nat) : List Value := rs.map (fun c : Nat => Value.int .i32 (c : Int))
theorem ch_rdP {F : Nat → Prop} {w w' : World} {A : Option Addr} {n : Nat} {vs : List Value} (h : Rd w A n vs) (hc : Ch F w w') (hd : 0 < n → ∀ b off, A = some ⟨b, off, none⟩ → ¬ F b) : Rd w' A n vs := by
  refine ⟨h.1, fun hn => ?_⟩
  obtain ⟨b, off, e, hlt, hcell⟩ := h.2 hn
  refine ⟨b, off, e, Nat.lt_of_lt_of_le hlt hc.size, fun j u hu => ?_⟩
  have h1 := hcell j u hu
  have h2 := hc.block b hlt (hd hn b off e)
  unfold World.cell? at h1 ⊢
  simp only at h1 ⊢
  rw [h2]
  exact h1
theorem Rd.tail {w : World} {b off n : Nat} {vs : List Value} (h : Rd w (some ⟨b, off, none⟩) n vs) (k : Nat) (hk : k ≤ n) : Rd w (some ⟨b, off + k, none⟩) (n - k) (vs.drop k) := by
  refine ⟨by have := h.1; simp; omega, fun hn => ?_⟩
  obtain ⟨b', off', e, hlt, hc⟩ := h.2 (by omega)
  injection e with e
  injection e with e1 e2
  subst e1 e2
  exact ⟨b, off + k, rfl, hlt, fun j u hu => by rw [Nat.add_assoc]; exact hc (k + j) u (by rwa [List.getElem?_drop] at hu)⟩
theorem run_size {P : Program} {e : TypeId} {sz : Nat} (hi : (P.info? e).map (·.size) = some sz) (w : World) : (sizeOf e).run P w = .ok sz w := by
  cases hq : P.info? e with
  | none => rw [hq] at hi; cases hi
  | some inf =>
    rw [hq] at hi
    simp at hi
    simp [sizeOf, typeInfo, hq, hi]
theorem add_plain' (b off k : Nat) : (⟨b, off, none⟩ : Addr).add k = ⟨b, off + k, none⟩ := by
  unfold Addr.add
  split
  · rename_i h; subst h; rfl
  · rfl
theorem run_cut {P : Program} {t e : TypeId} {sz : Nat} (ht : P.underlying t = some (.slice e)) (hi : (P.info? e).map (·.size) = some sz) (w : World) (b off len cap k : Nat) (i : Int) (q : IntKind) (hik : i = k) (h1 : k ≤ len) (h2 : k < cap) :
    (Instr.slice t (.slice (some ⟨b, off, none⟩) len cap) (some (.int q i)) none none).run P w = .ok (.slice (some ⟨b, off + k * sz, none⟩) (len - k) (cap - k)) w := by
  have ee : P.elem t = e := by simp [Program.elem, ht]
  subst hik
  rw [run_slice_l w t _ len cap (by rw [ee]; exact ht) q k (by omega) (by omega), ee, run_size hi w]
  simp only [Result.andThen, sliced, Option.map_some, Int.toNat_natCast, add_plain']
  rw [if_neg (by omega)]
theorem run_cut0 {P : Program} {t e : TypeId} {sz : Nat} (ht : P.underlying t = some (.slice e)) (hi : (P.info? e).map (·.size) = some sz) (w : World) (A : Option Addr) (len cap k : Nat) (i : Int) (q : IntKind) (hik : i = k) (h1 : k ≤ len) (h2 : k = cap) :
    (Instr.slice t (.slice A len cap) (some (.int q i)) none none).run P w = .ok (.slice A (len - k) (cap - k)) w := by
  have ee : P.elem t = e := by simp [Program.elem, ht]
  subst hik
  rw [run_slice_l w t _ len cap (by rw [ee]; exact ht) q k (by omega) (by omega), ee, run_size hi w]
  simp only [Result.andThen, sliced, Int.toNat_natCast]
  rw [if_pos (by omega)]
theorem szRu : (Tryz.prog.info? 21).map (·.size) = some 1 := by kernel_rfl
/-- A reader with its runes. -/
structure Rdr (w : World) (g B : Nat) (A : Option Addr) (n c : Nat) (rs : List Nat) (L : Int) : Prop where
  box : w.heap[g]? = some (.cells #[.slice A n c, .bool false, .int .i64 L] 118 (0, 0))
  rd : Rd w A n (runesV rs)
  ne : 0 < n → ∀ b off, A = some ⟨b, off, none⟩ → b ≠ g
  cap : n ≤ c
  lo : ∀ b off, 0 < n → A = some ⟨b, off, none⟩ → b < B
theorem Rdr.below {w w' : World} {g B n c : Nat} {A : Option Addr} {rs : List Nat} {L : Int} (h : Rdr w g B A n c rs L) (hb : Below w.heap.size w w') : Rdr w' g B A n c rs L := ⟨blk_bel h.box hb, h.rd.below hb (Nat.le_refl _), h.ne, h.cap, h.lo⟩
theorem Rdr.len {w : World} {g B n c : Nat} {A : Option Addr} {rs : List Nat} {L : Int} (h : Rdr w g B A n c rs L) : rs.length = n := by simpa using h.rd.1
theorem Rdr.lt {w : World} {g B n c : Nat} {A : Option Addr} {rs : List Nat} {L : Int} (h : Rdr w g B A n c rs L) : g < w.heap.size := blk_lt h.box
theorem Rdr.set {w w' : World} {g B n c : Nat} {A : Option Addr} {rs : List Nat} {L L' : Int} (h : Rdr w g B A n c rs L) (e : w' = w.setCell ⟨g, 2, none⟩ (.int .i64 L')) : Rdr w' g B A n c rs L' := by
  have hc : Ch (· = g) w w' := by rw [e]; exact ch_set _ _ _ _
  refine ⟨?_, ch_rdP h.rd hc (fun hn b off e => h.ne hn b off e), h.ne, h.cap, h.lo⟩
  rw [e]; simpa using blk_set h.box 2 (.int .i64 L')
theorem Rdr.row {w w' : World} {g B n c B' e s m : Nat} {A : Option Addr} {rs : List Nat} {L : Int} {v : Value} {vs : List Value} (h : Rdr w g B A n c rs L) (ho : w.ownsRow B' e s v m vs) (hg : w.grownBy w' v.ownBlock) (hT : 118 ≠ e) (hB : B ≤ B') : Rdr w' g B A n c rs L := by
  have hng : ¬ Fo v g := fun hf => by
    obtain ⟨cs, h1⟩ : ∃ cs, w.heap[g]? = some (.cells cs e (0, 0)) := by
      rcases ho.2 with ⟨rfl, _⟩ | ⟨k, _, cs, rfl, _, hk, _⟩
      · cases hf
      · have e1 : k = g := by simpa [Fo, Value.ownBlock] using hf
        exact ⟨cs, e1 ▸ hk⟩
    exact blk_ne h.box h1 hT rfl
  exact ⟨blk_ch h.box (ch_row hg) hng, ch_rdP h.rd (ch_row hg) (fun hn b off e hf => by have h1 := h.lo b off hn e; have h2 := (ho.lt b hf).1; omega), h.ne, h.cap, h.lo⟩
set_option maxHeartbeats 400000 in
theorem peek0_any (w : World) (g B : Nat) (A : Option Addr) (n c : Nat) (L : Int) (h : Rdr w g B A n c [] L) : Calls Tryz.prog 114 #[.pointer (some ⟨g, 0, none⟩)] w fun e w' => e = .returned (.int .i32 0) ∧ w = w' := by
  have hn : n = 0 := by have := h.len; simpa using this.symm
  subst hn
  have x0 := blk_cell h.box 0 rfl
  clear h
  go_enter Tryz.func114, Tryz.ntmps114
  go_wp2_with fail
  go_ret
  exact ⟨rfl, rfl⟩
set_option maxHeartbeats 400000 in
theorem peek_any (w : World) (g B : Nat) (A : Option Addr) (n c : Nat) (L : Int) (r : Nat) (rs : List Nat) (h : Rdr w g B A n c (r :: rs) L) : Calls Tryz.prog 114 #[.pointer (some ⟨g, 0, none⟩)] w fun e w' => e = .returned (.int .i32 (r : Int)) ∧ w = w' := by
  have hl := h.len
  obtain ⟨n, rfl⟩ : ∃ m, n = m + 1 := ⟨rs.length, by simpa using hl.symm⟩
  obtain ⟨b, off, rfl, hb, hc⟩ := h.rd.2 (by omega)
  have q0 := hc 0 _ (show (runesV (r :: rs))[0]? = some (.int .i32 (r : Int)) from rfl)
  rw [Nat.add_zero] at q0
  have x0 := blk_cell h.box 0 rfl
  clear h hc hl
  go_enter Tryz.func114, Tryz.ntmps114
  go_wp2_with fail
  go_ret
  exact ⟨rfl, rfl⟩
set_option maxHeartbeats 1000000 in
theorem take_any (w : World) (g B : Nat) (A : Option Addr) (n c : Nat) (L : Int) (r : Nat) (rs : List Nat) (h : Rdr w g B A n c (r :: rs) L) (hr : 0 < r) : Calls Tryz.prog 115 #[.pointer (some ⟨g, 0, none⟩)] w fun e w' => e = .returned (.int .i32 (r : Int)) ∧ (∃ A' n' c', Rdr w' g B A' n' c' rs L) ∧ Ch (· = g) w w' := by
  have HPK := Lib.hid (peek_any w g B A n c L r rs h)
  have hl := h.len
  obtain ⟨n, rfl⟩ : ∃ m, n = m + 1 := ⟨rs.length, by simpa using hl.symm⟩
  obtain ⟨b, off, rfl, hb, hc⟩ := h.rd.2 (by omega)
  have x0 := blk_cell h.box 0 rfl
  have f0 := blk_free h.box 0
  have hrq : ((r : Int) == 0) = false := by rw [beq_eq_false_iff_ne]; omega
  have hcap := h.cap
  have H := Lib.hid h
  have HN : Hid (rs.length = n) := Lib.hid (by simpa using hl)
  by_cases h1 : 1 < c
  · have hcut := fun (w : World) => run_cut (P := Tryz.prog) (t := 116) (e := 21) (sz := 1) Tryz.underlying116 szRu w b off (n + 1) c 1 1 .i64 rfl (by omega) h1
    clear h hc hl
    obtain ⟨w2, hw2⟩ : ∃ w2, w2 = w.setCell ⟨g, 0, none⟩ (.slice (some ⟨b, off + 1, none⟩) n (c - 1)) := ⟨_, rfl⟩
    have HC : Hid (Ch (· = g) w w2) := Lib.hid (by rw [hw2]; exact ch_set _ _ _ _)
    have HR : Hid (Rdr w2 g B (some ⟨b, off + 1, none⟩) n (c - 1) rs L) := Lib.hid (by
      have hh := H.out
      refine ⟨by rw [hw2]; simpa using blk_set hh.box 0 (.slice (some ⟨b, off + 1, none⟩) n (c - 1)), ?_, fun hn b' off' e => ?_, by omega, fun b' off' hn e => ?_⟩
      · have h5 := (ch_rdP hh.rd HC.out (fun hn b off e => hh.ne hn b off e)).tail 1 (by omega)
        simpa using h5
      · injection e with e
        injection e with e1
        rw [← e1]; exact hh.ne (by omega) b off rfl
      · injection e with e
        injection e with e1
        rw [← e1]; exact hh.lo b off (by omega) rfl)
    go_enter Tryz.func115, Tryz.ntmps115
    go_wp2_with (go_at_call 114; refine HPK.out.mono ?_; rintro e w' ⟨rfl, rfl⟩)
    go_ret
    try rw [← hw2]
    exact ⟨rfl, ⟨_, _, _, HR.out⟩, HC.out⟩
  · have hcut := fun (w : World) => run_cut0 (P := Tryz.prog) (t := 116) (e := 21) (sz := 1) Tryz.underlying116 szRu w (some ⟨b, off, none⟩) (n + 1) c 1 1 .i64 rfl (by omega) (by omega)
    have hn0 : n = 0 := by omega
    subst hn0
    clear h hc hl
    obtain ⟨w2, hw2⟩ : ∃ w2, w2 = w.setCell ⟨g, 0, none⟩ (.slice (some ⟨b, off, none⟩) 0 (c - 1)) := ⟨_, rfl⟩
    have HC : Hid (Ch (· = g) w w2) := Lib.hid (by rw [hw2]; exact ch_set _ _ _ _)
    have HR : Hid (Rdr w2 g B (some ⟨b, off, none⟩) 0 (c - 1) rs L) := Lib.hid (by
      have hh := H.out
      have e : rs = [] := List.eq_nil_of_length_eq_zero HN.out
      subst e
      exact ⟨by rw [hw2]; simpa using blk_set hh.box 0 (.slice (some ⟨b, off, none⟩) 0 (c - 1)), ⟨rfl, fun h => by omega⟩, fun hn => by omega, by omega, fun b' off' hn => by omega⟩)
    go_enter Tryz.func115, Tryz.ntmps115
    go_wp2_with (go_at_call 114; refine HPK.out.mono ?_; rintro e w' ⟨rfl, rfl⟩)
    go_ret
    try rw [← hw2]
    exact ⟨rfl, ⟨_, _, _, HR.out⟩, HC.out⟩
set_option maxHeartbeats 400000 in
theorem digit_any (w : World) (g B : Nat) (A : Option Addr) (n c : Nat) (L : Int) (rs : List Nat) (h : Rdr w g B A n c rs L) : Calls Tryz.prog 118 #[.pointer (some ⟨g, 0, none⟩), .int .i32 48] w fun e w' => e = .returned (.int .i64 0) ∧ Rdr w' g B A n c rs L ∧ Ch (· = g) w w' := by
  have x1 := blk_cell h.box 1 rfl
  have f1 := blk_free h.box 1
  obtain ⟨w2, hw2⟩ : ∃ w2, w2 = w.setCell ⟨g, 1, none⟩ (.bool false) := ⟨_, rfl⟩
  have HC : Hid (Ch (· = g) w w2) := Lib.hid (by rw [hw2]; exact ch_set _ _ _ _)
  have HR : Hid (Rdr w2 g B A n c rs L) := Lib.hid ⟨by rw [hw2]; simpa using blk_set h.box 1 (.bool false), ch_rdP h.rd HC.out (fun hn b off e => h.ne hn b off e), h.ne, h.cap, h.lo⟩
  clear h
  go_enter Tryz.func118, Tryz.ntmps118
  go_wp2_with fail
  go_ret
  try rw [← hw2]
  exact ⟨rfl, HR.out, HC.out⟩
end Go.Proofs.YtaadobggenbbdaaGreatDoor
