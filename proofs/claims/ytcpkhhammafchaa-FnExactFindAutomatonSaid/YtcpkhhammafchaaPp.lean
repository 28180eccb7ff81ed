/- The proof that is laid out of some parts (program). Written by mk_pp.py. -/
import Derived.Test.YtcpkhhammafchaaGI
namespace Go.Proofs.Ytcpkhhammafchaa
open Go.RowKit
set_option linter.unusedVariables false
set_option linter.unusedSimpArgs false
def RetX (w : World) (xss : List (List Int)) (e : Ending) (w' : World) : Prop := ∃ (A : Option Addr) (n c : Nat) (us : List Value), e = .returned (.slice A n c) ∧ OwnX w' A n c us xss ∧ (∀ q, FX A n c us q → w.heap.size ≤ q) ∧ Below w.heap.size w w'
theorem ownp_x {w : World} {F : Nat → Prop} {A : Option Addr} {n c : Nat} {xss : List (List Int)} (h : OwnP w F A n c xss) : ∃ us, OwnX w A n c us xss ∧ ∀ q, FX A n c us q → F q := by
  obtain ⟨us, h1, h2, h3, h4⟩ := h
  refine ⟨us, ⟨ownN_base h1 (Nat.zero_le _), inner_fu h3⟩, fun q hq => ?_⟩
  rcases hq with hq | ⟨u, hu, hq⟩
  · exact h2 q hq
  · obtain ⟨i, hi⟩ := List.getElem?_of_mem hu
    obtain ⟨xs, hx⟩ := get_some (xs := xss) (k := i) (by rw [← h3.1]; exact (List.getElem?_eq_some_iff.1 hi).1)
    obtain ⟨_, _, _, _, _, _, hb⟩ := h3.2.1 i u xs hi hx
    exact hb q hq
theorem copyLists_x (w : World) (A : Option Addr) (n c : Nat) (xss : List (List Int)) (hr : RdL w A n xss) (hn : n ≤ 1000000000) : Calls Try.prog 127 #[.slice A n c] w (RetX w xss) := by
  refine (copyLists_any w A n c xss hr hn).mono ?_
  rintro e w' ⟨A', n', c', F, rfl, ho, hF, hb⟩
  obtain ⟨us, h1, h2⟩ := ownp_x ho
  exact ⟨A', n', c', us, rfl, h1, fun q hq => (hF q (h2 q hq)).1, hb⟩
theorem ints_ap (a b : List Int) : ints (a ++ b) = ints a ++ ints b := List.map_append
theorem ch_undrq {F : Nat → Prop} {w w' : World} (h : Ch F w.drew w') : Ch F w w' := ⟨h.os, h.tape, h.output, h.size, h.block⟩
theorem below_alq {w0 w : World} {o : Obj} (h : Below w0.heap.size w0 w) : Below w0.heap.size w0 (w.alloc o) := h.alloc h.size _
theorem al_hfq {P Q : Nat → Prop} {w : World} {o : Obj} (h : ∀ q, P q → Q q ∨ (w.alloc o).heap.size ≤ q) : ∀ q, P q → Q q ∨ w.heap.size ≤ q := fun q hq => (h q hq).elim .inl (fun h2 => .inr (by simp at h2; omega))
theorem al_hfd {P Q : Nat → Prop} {w : World} {o : Obj} (h : ∀ q, P q → Q q ∨ (w.alloc o).drew.heap.size ≤ q) : ∀ q, P q → Q q ∨ w.heap.size ≤ q := al_hfq (o := o) h
theorem row_nq {w : World} {base n c : Nat} {A : Option Addr} {xs : List Int} {b : Nat} (h : w.ownsRow base 2 1 (.slice A n c) n (ints xs)) (hb : xs.length ≤ b) : n ≤ b := by
  have h1 := h.1
  simp at h1
  omega
abbrev pfZq : Array Value := #[.int .i64 0, .slice none 0 0, .slice none 0 0]
/-- The words are laid anew. -/
theorem PB.newW {w0 w : World} {g n c m d n' c' : Nat} {A B A' : Option Addr} {ns : List Int} {us us' : List Value} {ws ws' : List (List Int)} (h : PB w0 w g A n c ns B m d us ws) (hx : OwnX w A' n' c' us' ws') (hlo : ∀ q, FX A' n' c' us' q → w0.heap.size ≤ q) (hd : ∀ q, Fo (.slice A n c) q → FX A' n' c' us' q → False) : PB w0 (w.setCell ⟨g, 2, none⟩ (.slice A' n' c')) g A n c ns A' n' c' us' ws' := by
  have hs := ch_set w g 2 (.slice A' n' c')
  have hng : ¬ FX A' n' c' us' g := fun hk => by
    rcases hk with hk | hk
    · obtain ⟨cs, hc⟩ := own_fo hx.1 hk; exact blk_ne h.box hc (by decide) rfl
    · obtain ⟨cs, hc⟩ := inner_fo hx.2 hk; exact blk_ne h.box hc (by decide) rfl
  exact ⟨by simpa using blk_set h.box 2 (.slice A' n' c'), own_ch h.nums hs (fun k h1 h2 => h.ng (by rw [← h2]; exact h1)), hx.ch hs (fun k h1 h2 => hng (by rw [← h2]; exact h1)), h.glo, h.nlo, hlo, hd, below_ch h.lo hs (fun k hk => by have e : k = g := hk; rw [e]; exact h.glo) h.lo.size⟩
/-- The words are two lists that were copied, one laid behind the other. -/
theorem PB.joinW {w0 w1 w5 w6 w8 : World} {g n c m d n8 c8 n9 c9 c' : Nat} {A B A8 A9 A' : Option Addr} {ns : List Int} {us us8 us9 : List Value} {ws ls rs : List (List Int)} (h : PB w0 w1 g A n c ns B m d us ws) (hb5 : Below w1.heap.size w1 w5) (hx8 : OwnX w5 A8 n8 c8 us8 ls) (hf8 : ∀ q, FX A8 n8 c8 us8 q → w1.heap.size ≤ q) (hb6 : Below w5.heap.size w5 w6) (hx9 : OwnX w6 A9 n9 c9 us9 rs) (hf9 : ∀ q, FX A9 n9 c9 us9 q → w5.heap.size ≤ q)
    (ho : w8.ownsRow 0 25 1 (.slice A' (n8 + n9) c') (n8 + n9) (us8 ++ us9)) (hc : Ch (Fo (.slice A8 n8 c8)) w6 w8) (hf : ∀ q, Fo (.slice A' (n8 + n9) c') q → Fo (.slice A8 n8 c8) q ∨ w6.heap.size ≤ q) :
    w8.heap[g]? = some (.cells #[.int .i64 8, .slice A n c, .slice B m d] 48 (0, 0)) ∧ PB w0 (w8.setCell ⟨g, 2, none⟩ (.slice A' (n8 + n9) c')) g A n c ns A' (n8 + n9) c' (us8 ++ us9) (ls ++ rs) := by
  have hx8' := hx8.below hb6
  have hi := inner_app hx8'.2 hx9.2 (fun k h1 h2 => by have h3 := hx8.lt (.inr h1); have h4 := hf9 k (.inr h2); omega)
  have hi8 : InnerP w8 (FU (us8 ++ us9)) (us8 ++ us9) (ls ++ rs) := hi.ch hc (fun k h1 h2 => by
    obtain ⟨cs, h3⟩ := inner_fo hi h1
    obtain ⟨ds, h4⟩ := own_fo hx8'.1 h2
    exact blk_ne h3 h4 (by decide) rfl)
  have hb16 : Below w1.heap.size w1 w6 := hb5.trans (hb6.mono hb5.size)
  have hb18 : Below w1.heap.size w1 w8 := below_ch hb16 hc (fun k hk => hf8 k (.inl hk)) hb16.size
  have h8 := h.below hb18
  have hfx : ∀ q, FX A' (n8 + n9) c' (us8 ++ us9) q → w1.heap.size ≤ q := fun q hq => by
    rcases hq with hq | ⟨u, hu, hq⟩
    · rcases hf q hq with h1 | h1
      · exact hf8 q (.inl h1)
      · exact Nat.le_trans hb16.size h1
    · rcases List.mem_append.1 hu with hu | hu
      · exact hf8 q (.inr ⟨u, hu, hq⟩)
      · exact Nat.le_trans hb5.size (hf9 q (.inr ⟨u, hu, hq⟩))
  exact ⟨h8.box, h8.newW ⟨ho, hi8⟩ (fun q hq => Nat.le_trans h.lo.size (hfx q hq)) (fun q h1 h2 => absurd (h.nums.lt q h1).2 (Nat.not_lt.2 (hfx q h2)))⟩
/-- Behind the head of a proof. -/
def PE (w0 : World) (m : Int) (n1 n2 : Nat) (s3 : Value) (wx : World) : Prop := ∃ (g : Nat) (A : Option Addr) (c : Nat), s3 = .pointer (some ⟨g, 0, none⟩) ∧ PB w0 wx g A 3 c [m, n1, n2] none 0 0 [] []
theorem pq_row3 (w : World) (a b c : Value) : (w.alloc (.cells #[a, b, c] 2)).ownsRow w.heap.size 2 1 (.slice (some ⟨w.heap.size, 0, none⟩) 3 3) 3 [a, b, c] := own_lit w #[a, b, c] 3 2 rfl (by omega)
theorem pe_at {w0 w : World} {m : Int} {n1 n2 : Nat} {A : Option Addr} {c g : Nat} (hx : w.heap[g]? = some (.cells #[.int .i64 8, .slice A 3 c, .slice none 0 0] 48 (0, 0))) (hg : w0.heap.size ≤ g) (hn : w.ownsRow w0.heap.size 2 1 (.slice A 3 c) 3 (ints [m, n1, n2])) (hlo : Below w0.heap.size w0 w) :
    PE w0 m n1 n2 (.pointer (some ⟨g, 0, none⟩)) w := ⟨g, A, c, rfl, hx, ownN_base hn (Nat.zero_le _), OwnX.nil _, hg, fun q hq => (hn.lt q hq).1, fun q h => (fx_nil q h).elim, fun q _ h => fx_nil q h, hlo⟩
theorem pe_way0 (w0 : World) (m : Int) (n1 n2 : Nat) : PE w0 m n1 n2 (.pointer (some ⟨w0.heap.size + 1, 0, none⟩)) ((w0.alloc (.cells #[.int .i64 m, .int .i64 (n1 : Int), .int .i64 (n2 : Int)] 2)).alloc (.cells #[.int .i64 8, .slice (some ⟨w0.heap.size, 0, none⟩) 3 3, .slice none 0 0] 48)) :=
  pe_at (by have h := box_new (w0.alloc (.cells #[.int .i64 m, .int .i64 (n1 : Int), .int .i64 (n2 : Int)] 2)) #[.int .i64 8, .slice (some ⟨w0.heap.size, 0, none⟩) 3 3, .slice none 0 0] 48; simpa using h) (by omega) (ownN_below (pq_row3 w0 (.int .i64 m) (.int .i64 (n1 : Int)) (.int .i64 (n2 : Int))) (below_new (w0.alloc (.cells #[.int .i64 m, .int .i64 (n1 : Int), .int .i64 (n2 : Int)] 2)) (.cells #[.int .i64 8, .slice (some ⟨w0.heap.size, 0, none⟩) 3 3, .slice none 0 0] 48)) (Nat.le_refl _)) (below_alq (below_alq (Below.refl _ _)))
theorem pe_way1 (w0 : World) (m : Int) (n1 n2 : Nat) : PE w0 m n1 n2 (.pointer (some ⟨w0.heap.size, 0, none⟩)) ((w0.alloc (.cells #[.int .i64 8, .slice (some ⟨w0.heap.size + 1, 0, none⟩) 3 3, .slice none 0 0] 48)).alloc (.cells #[.int .i64 m, .int .i64 (n1 : Int), .int .i64 (n2 : Int)] 2)) :=
  pe_at (blk_alloc (box_new w0 #[.int .i64 8, .slice (some ⟨w0.heap.size + 1, 0, none⟩) 3 3, .slice none 0 0] 48) _) (Nat.le_refl _) (by have h := own_base (base' := w0.heap.size) (pq_row3 (w0.alloc (.cells #[.int .i64 8, .slice (some ⟨w0.heap.size + 1, 0, none⟩) 3 3, .slice none 0 0] 48)) (.int .i64 m) (.int .i64 (n1 : Int)) (.int .i64 (n2 : Int))) (by simp); simpa using h) (below_alq (below_alq (Below.refl _ _)))
theorem pe_dr {w0 w : World} {m : Int} {n1 n2 : Nat} {s : Value} (h : PE w0 m n1 n2 s w) : PE w0 m n1 n2 s w.drew := by
  obtain ⟨g, A, c, e, h⟩ := h
  exact ⟨g, A, c, e, h.drew⟩
theorem outq_end {w w0 wx : World} {g : Nat} {A B : Option Addr} {n c m d : Nat} {ns : List Int} {us : List Value} {ws : List (List Int)} {v0 v1 v2 : Value} {r : Nat} (h : PB w0 wx g A n c ns B m d us ws) (hb : Below w.heap.size w w0) (hr : w.heap.size ≤ r) (hr0 : r < w0.heap.size) :
    OutQ w ns ws (.returned (prfV 8 A n c B m d)) (((wx.setCell ⟨r, 0, none⟩ v0).setCell ⟨r, 1, none⟩ v1).setCell ⟨r, 2, none⟩ v2) := by
  have hs : Ch (· = r) wx (((wx.setCell ⟨r, 0, none⟩ v0).setCell ⟨r, 1, none⟩ v1).setCell ⟨r, 2, none⟩ v2) := ((ch_set _ _ 0 _).trans (ch_set _ _ 1 _)).trans (ch_set _ _ 2 _)
  have hz := hb.trans (h.lo.mono hb.size)
  refine ⟨A, n, c, B, m, d, us, rfl, own_ch h.nums hs (fun k h1 h2 => ?_), h.rows.ch hs (fun k h1 h2 => ?_), fun q hq => Nat.le_trans hb.size (h.nlo q hq), fun q hq => Nat.le_trans hb.size (h.wlo q hq), h.dis, below_ch hz hs (fun k hk => by have e : k = r := hk; omega) hz.size⟩
  · have h3 := h.nlo k h1; have e : k = r := h2; omega
  · have h3 := h.wlo k h1; have e : k = r := h2; omega
theorem cell_alSq {w : World} {p : Addr} {v : Value} {o : Obj} (h : w.cell? p = some v) : (w.alloc o).cell? p = some v := (World.cell?_alloc_some w p o (by rw [h]; rfl)).trans h
section
variable {w : World} {o : Obj} {g g' i : Nat} {u a b c : Value}
theorem triq_al (h : w.cell? ⟨g, 0, none⟩ = some a ∧ w.cell? ⟨g, 1, none⟩ = some b ∧ w.cell? ⟨g, 2, none⟩ = some c) : (w.alloc o).cell? ⟨g, 0, none⟩ = some a ∧ (w.alloc o).cell? ⟨g, 1, none⟩ = some b ∧ (w.alloc o).cell? ⟨g, 2, none⟩ = some c := ⟨cell_alSq h.1, cell_alSq h.2.1, cell_alSq h.2.2⟩
theorem triq_dr (h : w.cell? ⟨g, 0, none⟩ = some a ∧ w.cell? ⟨g, 1, none⟩ = some b ∧ w.cell? ⟨g, 2, none⟩ = some c) : w.drew.cell? ⟨g, 0, none⟩ = some a ∧ w.drew.cell? ⟨g, 1, none⟩ = some b ∧ w.drew.cell? ⟨g, 2, none⟩ = some c := h
theorem triq_set (h : w.cell? ⟨g, 0, none⟩ = some a ∧ w.cell? ⟨g, 1, none⟩ = some b ∧ w.cell? ⟨g, 2, none⟩ = some c) (hne : g ≠ g') : (w.setCell ⟨g', i, none⟩ u).cell? ⟨g, 0, none⟩ = some a ∧ (w.setCell ⟨g', i, none⟩ u).cell? ⟨g, 1, none⟩ = some b ∧ (w.setCell ⟨g', i, none⟩ u).cell? ⟨g, 2, none⟩ = some c := ⟨cell_far h.1 hne, cell_far h.2.1 hne, cell_far h.2.2 hne⟩
end
theorem inner_one {w : World} {F : Nat → Prop} {us : List Value} {xss : List (List Int)} (h : InnerP w F us xss) : ∀ u ∈ us, u.oneCell' = true := by
  intro u hu
  obtain ⟨i, hi⟩ := List.getElem?_of_mem hu
  obtain ⟨xs, hx⟩ := get_some (xs := xss) (k := i) (by rw [← h.1]; exact (List.getElem?_eq_some_iff.1 hi).1)
  obtain ⟨_, _, _, rfl, _⟩ := h.2.1 i u xs hi hx
  rfl
set_option maxHeartbeats 16000000 in
set_option maxRecDepth 100000 in
theorem proof_any (w : World) (m : Int) (A1 : Option Addr) (n1 c1 : Nat) (A2 : Option Addr) (n2 c2 : Nat) (A3 : Option Addr) (n3 c3 : Nat) (ls rs ss : List (List Int)) (us3 : List Value) (hr1 : RdL w A1 n1 ls) (hn1 : n1 ≤ 100000000) (hr2 : RdL w A2 n2 rs) (hn2 : n2 ≤ 100000000) (hr3 : OwnX w A3 n3 c3 us3 ss) (hn3 : n3 ≤ 100000000) (hpos : ∀ xs ∈ ss, 1 ≤ xs.length) :
    Calls Try.prog 135 #[csV m A1 n1 c1 A2 n2 c2 A3 n3 c3] w (OutQ w ([m, (n1 : Int), (n2 : Int)] ++ ss.map (fun x => x.getD 0 0)) (ls ++ rs ++ ss.map (fun x => x.drop 1))) := by
  obtain ⟨w0, hw0⟩ : ∃ w0, w0 = (w.alloc (.cells #[.int .i64 m, .slice A1 n1 c1, .slice A2 n2 c2, .slice A3 n3 c3] 125)).alloc (.cells pfZq 48) := ⟨_, rfl⟩
  have hB : Below w.heap.size w w0 := by rw [hw0]; exact (below_new w _).trans ((below_new _ _).mono (by simp))
  have hx0 : w0.heap[w.heap.size]? = some (.cells #[.int .i64 m, .slice A1 n1 c1, .slice A2 n2 c2, .slice A3 n3 c3] 125 (0, 0)) := by rw [hw0]; exact blk_alloc (box_new w _ _) _
  have hz : w0.heap[w.heap.size + 1]? = some (.cells pfZq 48 (0, 0)) := by rw [hw0]; have h := box_new (w.alloc (.cells #[.int .i64 m, .slice A1 n1 c1, .slice A2 n2 c2, .slice A3 n3 c3] 125)) pfZq 48; simpa using h
  have HX0 := Lib.hid hx0; have HZ := Lib.hid hz
  have HR1 := Lib.hid (hr1.below hB (Nat.le_refl _)); have HR2 := Lib.hid (hr2.below hB (Nat.le_refl _)); have HR3 := Lib.hid (hr3.below hB)
  have HL3 : Hid (ss.length = n3) := Lib.hid hr3.ownp.len
  have HPOS := Lib.hid hpos
  have HB := Lib.hid hB
  have HZL : Hid (w.heap.size + 1 < w0.heap.size) := Lib.hid (blk_lt hz)
  have HM1 : Hid (n1 ≤ 1000000000) := Lib.hid (by omega)
  have HM2 : Hid (n2 ≤ 1000000000) := Lib.hid (by omega)
  have y0 := blk_cell hx0 0 rfl
  have y1 := blk_cell hx0 1 rfl
  have y2 := blk_cell hx0 2 rfl
  have TRI := Lib.hid (And.intro y0 (And.intro y1 y2))
  have HGL : Hid (w.heap.size < w0.heap.size) := Lib.hid (blk_lt hx0)
  clear hB hz hx0 hr1 hr2 hr3 hpos
  go_enter Try.func135, Try.ntmps135
  go_upto_region 1 with fail
  rw [← hw0]
  clear hw0
  as_aux_lemma =>
  go_cut [3] from 6 to 15 (PE w0 m n1 n2)
  case first =>
    as_aux_lemma =>
    go_region_held3 (fun w' => w'.cell? ⟨w.heap.size, 0, none⟩ = some (.int .i64 m) ∧ w'.cell? ⟨w.heap.size, 1, none⟩ = some (.slice A1 n1 c1) ∧ w'.cell? ⟨w.heap.size, 2, none⟩ = some (.slice A2 n2 c2)) (first | with_reducible exact ⟨y0, y1, y2⟩ | (repeat (first | exact TRI.out | refine triq_dr ?_ | refine triq_al ?_ | refine triq_set ?_ (by have h := HGL.out; first | omega | (simp; omega))))) (first
      | (go_at_call 125
         refine (sizeL_any _ _ _ _).mono ?_
         rintro e w' ⟨rfl, rfl⟩)
      )
    all_goals
      as_aux_lemma =>
      go_wp2_with fail
      go_meet
      first
        | (have h := pe_way0 w0 m n1 n2; exact h)
        | (have h := pe_way0 w0 m n1 n2; (try simp only [World.size_alloc]); exact h)
        | (have h := pe_way0 w0 m n1 n2; (try simp only [World.size_alloc]); exact pe_dr h)
        | (have h := pe_way1 w0 m n1 n2; exact h)
        | (have h := pe_way1 w0 m n1 n2; (try simp only [World.size_alloc]); exact h)
        | (have h := pe_way1 w0 m n1 n2; (try simp only [World.size_alloc]); exact pe_dr h)
  case rest =>
    as_aux_lemma =>
    obtain ⟨gp, A5, c5, rfl, hpb⟩ := hcut
    obtain ⟨w1, rfl⟩ : ∃ w1 : World, w1 = wc := ⟨_, rfl⟩
    have HPB := Lib.hid hpb
    clear y0 y1 y2 TRI
    have hx1 := blk_bel HX0.out hpb.lo
    have y1 := blk_cell hx1 1 rfl
    have y2 := blk_cell hx1 2 rfl
    have HX1 := Lib.hid hx1
    have HRA := Lib.hid (HR1.out.below hpb.lo (Nat.le_refl _)); have HRB := Lib.hid (HR2.out.below hpb.lo (Nat.le_refl _))
    clear hpb hx1
    go_wp2_with fail
    (first
      | (go_region_law (first
          | (have hq := HX9.out
             clear hq
             refine step_appOz Try.eltS (by rfl) (.tmp 18) (.tmp 21) (by rfl) _ 0 A8 _ n8 c8 n9 _ us8 us9 (by rfl) (by exact (HX8.out.below HB6.out).1) (by rfl) (by exact own_rd HX9.out.1) (by exact HU9.out) (by exact HN89.out) ?_
             intro A7 c7 w7 ho7 hch7 hfo7
             have hj := HPB.out.joinW HB5.out HX8.out HF8.out HB6.out HX9.out HF9.out ho7 hch7 hfo7
             have z7 := blk_cell hj.1 2 rfl
             have f7 := blk_free hj.1 2
             have HPJ := Lib.hid hj.2
             clear ho7 hch7 hfo7 hj)
          | (have hq := HX8.out
             clear hq
             go_simp
             go_at_call 127
             refine (copyLists_x _ A2 n2 c2 rs (by have h := HRB.out.below HB5.out (Nat.le_refl _); exact h) (by exact HM2.out)).mono ?_
             rintro e w6 ⟨A9, n9, c9, us9, rfl, hx9, hf9, hb6⟩
             have HX9 := Lib.hid hx9; have HF9 := Lib.hid hf9; have HB6 := Lib.hid hb6
             have HU9 : Hid (∀ u ∈ us9, u.oneCell' = true) := Lib.hid (inner_one hx9.2)
             have HN89 : Hid (n8 + n9 ≤ 1099511627776) := Lib.hid (by have h1 := HX8.out.ownp.len; have h2 := hx9.ownp.len; have h3 := HRA.out.len; have h4 := HRB.out.len; have h5 := HM1.out; have h6 := HM2.out; omega)
             have hxx := blk_bel (blk_bel HX1.out HB5.out) hb6
             have y1c := blk_cell hxx 1 rfl
             have y2c := blk_cell hxx 2 rfl
             clear hx9 hf9 hb6 hxx)
          | (go_simp
             go_at_call 127
             refine (copyLists_x _ A1 n1 c1 ls (by have h := HRA.out; exact h) (by exact HM1.out)).mono ?_
             rintro e w5 ⟨A8, n8, c8, us8, rfl, hx8, hf8, hb5⟩
             have HX8 := Lib.hid hx8
             have HF8 : Hid (∀ q, FX A8 n8 c8 us8 q → w1.heap.size ≤ q) := Lib.hid hf8
             have HB5 := Lib.hid (und1 hb5)
             have hxx := blk_bel HX1.out HB5.out
             have y1b := blk_cell hxx 1 rfl
             have y2b := blk_cell hxx 2 rfl
             clear hx8 hf8 hb5 hxx)))
      | fail)
    all_goals
      as_aux_lemma =>
      have HE8 : Hid (n8 + n9 = n1 + n2) := Lib.hid (by have h1 := HX8.out.ownp.len; have h2 := HX9.out.ownp.len; have h3 := HRA.out.len; have h4 := HRB.out.len; omega)
      have HPJ2 := HPJ.out
      rw [HE8.out] at HPJ2
      have HPJ := Lib.hid HPJ2
      clear HPJ2
      generalize hww : n8 + n9 = nn at *
      obtain rfl : nn = n1 + n2 := HE8.out
      clear hww HX8 HX9 HF8 HF9 HB5 HB6 HU9 HN89 HRA HRB y1 y2 y1b y2b y1c y2c
      go_upto_region 3 with fail
      obtain ⟨wj, hwj⟩ : ∃ wj, wj = w7.setCell ⟨gp, 2, none⟩ (.slice A7 (n1 + n2) c7) := ⟨_, rfl⟩
      have HPW : Hid (PB w0 wj gp A5 3 c5 [m, (n1 : Int), (n2 : Int)] A7 (n1 + n2) c7 (us8 ++ us9) (ls ++ rs)) := Lib.hid (by rw [hwj]; exact HPJ.out)
      rw [← hwj]
      clear hwj HPJ z7 f7
      have hxj := blk_bel HX0.out HPW.out.lo
      have y3 := blk_cell hxj 3 rfl
      clear hxj
      go_wp2_with fail
      go_loopw [27] (fun i wr => ∃ (j : Nat) (A : Option Addr) (c : Nat) (B : Option Addr) (d : Nat) (us : List Value), j ≤ n3 ∧ i = .int .i64 j ∧ PB w0 wr gp A (3 + j) c ([m, (n1 : Int), (n2 : Int)] ++ (ss.map (fun x => x.getD 0 0)).take j) B (n1 + n2 + j) d us (ls ++ rs ++ (ss.map (fun x => x.drop 1)).take j)) (fun i _ => n3 - (intOf i).toNat)
      case atStart => exact ⟨0, A5, c5, A7, c7, us8 ++ us9, by omega, rfl, by simpa using HPW.out⟩
      case round =>
        as_aux_lemma =>
        obtain ⟨j, A, c, B, d, us, hj, rfl, hpb⟩ := hrel
        have HPB := Lib.hid hpb
        clear y3
        by_cases hlt : j < n3
        · as_aux_lemma =>
          have hlt' : (j : Int) < (n3 : Int) := by omega
          have h3 := HR3.out.below hpb.lo
          obtain ⟨u, hu⟩ := get_some (xs := us3) (k := j) (by have h4 := h3.1.1; simp at h4; omega)
          obtain ⟨xs, hx⟩ := get_some (xs := ss) (k := j) (by rw [HL3.out]; exact hlt)
          have hpx := HPOS.out xs (List.mem_of_getElem? hx)
          obtain ⟨A', n', c', rfl, hn', ho', _⟩ := h3.2.2.1 j u xs hu hx
          obtain ⟨b, off, hA3, hbs, q1⟩ := (own_rd h3.1).at_ hu
          subst hA3
          have hl' : xs.length = n' := by have h1 := ho'.1; simpa using h1
          obtain ⟨x, r, rfl⟩ : ∃ x r, xs = x :: r := by cases xs with
            | nil => simp at hpx
            | cons x r => exact ⟨x, r, rfl⟩
          have hrd := own_rd ho'
          obtain ⟨bw, ow, rfl, hbw, q0⟩ := hrd.at_ (ints_get (xs := x :: r) (k := 0) (x := x) rfl)
          simp only [Nat.add_zero] at q0
          have hcap : n' ≤ c' := ownN_cap ho'
          have hl2 : n' = r.length + 1 := by simp at hl'; omega
          have HRTW : Hid (∀ wx, Below w0.heap.size w0 wx → Rd wx (cutA (some ⟨bw, ow, none⟩) 1 c' 1) (n' - 1) (ints r)) := Lib.hid (fun wx hbx => by
            obtain ⟨A2', n2', c2', e2, _, ho2, _⟩ := HR3.out.2.2.1 j _ (x :: r) hu hx
            injection e2 with e3 e4 e5
            subst e3 e4 e5
            have h := ((own_rd ho2).below hbx (Nat.le_refl _)).cut 1 c' (by omega) hcap
            simpa using h)
          have hct : ∀ w, (Instr.slice 25 (.slice (some ⟨bw, ow, none⟩) n' c') (some (.int .i64 1)) none none).run Try.prog w = .ok (.slice (cutA (some ⟨bw, ow, none⟩) 1 c' 1) (n' - 1) (c' - 1)) w := fun w => run_cutF Try.underlying25 Try.szI w (some ⟨bw, ow, none⟩) n' c' 1 1 .i64 rfl (by omega)
          have hin : (0 : Int) < (n' : Int) := by omega
          have hin0 : 0 < n' := by omega
          have HNX : Hid (n' - 1 ≤ 1000000000) := Lib.hid (by omega)
          have HXL : Hid (r.length ≤ 1000000000) := Lib.hid (by omega)
          generalize cutA (some ⟨bw, ow, none⟩) 1 c' 1 = At at *
          generalize n' - 1 = nt at *
          generalize c' - 1 = ct at *
          have HT1 : Hid ((ss.map (fun x => x.getD 0 0)).take (j + 1) = (ss.map (fun x => x.getD 0 0)).take j ++ [x]) := Lib.hid (by rw [List.take_add_one, List.getElem?_map, hx]; rfl)
          have HT2 : Hid ((ss.map (fun x => x.drop 1)).take (j + 1) = (ss.map (fun x => x.drop 1)).take j ++ [r]) := Lib.hid (by rw [List.take_add_one, List.getElem?_map, hx]; rfl)
          have HU1 : Hid (∀ A n c, ∀ u ∈ [Value.slice A n c], u.oneCell' = true) := Lib.hid (by simp [Value.oneCell'])
          have HU2 : Hid (∀ x, ∀ u ∈ [Value.int .i64 x], u.oneCell' = true) := Lib.hid (by simp [Value.oneCell'])
          have HJ1 : Hid (3 + j + 1 ≤ 1099511627776) := Lib.hid (by omega)
          have HJB : Hid (n1 + n2 + j + 1 ≤ 1099511627776) := Lib.hid (by omega)
          have HQ0 := Lib.hid q0
          have x1 := hpb.y1
          have x1a := (hpb.alloc (o := .cells #[.int .i64 x] 2)).y1
          generalize (ss.map (fun x => x.getD 0 0)).take j = hs at *
          generalize (ss.map (fun x => x.drop 1)).take j = ts at *
          clear hu hx hpx h3 ho' hl' hl2 hrd hcap hn' hpb hbs hbw
          go_wp2_with fail
          (first
            | (go_region_law (first
                | (refine step_appOz Try.eltI (by rfl) (.tmp 32) (.tmp 36) (by rfl) _ 0 A _ (3 + j) c 1 _ _ [.int .i64 x] (by rfl) (by first | with_reducible exact HPB.out.alloc.drew.nums | with_reducible exact HPB.out.alloc.nums) (by rfl) (by first | exact own_rd (base := 0) (c := 1) (e := 2) (own_drw (tmp_new _ _ _)) | exact own_rd (base := 0) (c := 1) (e := 2) (tmp_new _ _ _)) (by exact HU2.out _) (by exact HJ1.out) ?_
                   intro A6 c6 w6 ho6 hch6 hfo6
                   have hch6' := (ch_alloc (Fo (.slice A (3 + j) c)) wr (.cells #[.int .i64 x] 2)).trans (ch_undrq hch6)
                   have hbx := HPB.out.boxN hch6'
                   have x6 := blk_cell hbx 1 rfl
                   have e6 := blk_free hbx 1
                   have HPN := Lib.hid (HPB.out.addN (ks := [x]) (by rw [ints_ap]; exact ho6) hch6' (al_hfd (o := .cells #[.int .i64 x] 2) hfo6))
                   clear hbx ho6 hch6 hfo6 hch6')))
            | fail)
          all_goals
            as_aux_lemma =>
            go_upto_region 7 with fail
            obtain ⟨wn, hwn⟩ : ∃ wn, wn = w6.setCell ⟨gp, 1, none⟩ (.slice A6 (3 + j + 1) c6) := ⟨_, rfl⟩
            have HPN2 : Hid (PB w0 wn gp A6 (3 + j + 1) c6 ([m, (n1 : Int), (n2 : Int)] ++ hs ++ [x]) B (n1 + n2 + j) d us (ls ++ rs ++ ts)) := Lib.hid (by rw [hwn]; exact HPN.out)
            have HRT2 : Hid (Rd wn At nt (ints r)) := Lib.hid (HRTW.out wn HPN2.out.lo)
            rw [← hwn]
            clear hwn HPN HPB x6 e6 x1 x1a q0 q1
            have x2 := HPN2.out.y2
            go_wp2_with fail
            (first
              | (go_region_law (first
                  | (have hq := HBB2.out
                     clear hq
                     refine step_appOz Try.eltS (by rfl) (.tmp 40) (.tmp 44) (by rfl) _ 0 B _ (n1 + n2 + j) d 1 _ us [.slice A2' n2' c2'] (by rfl) (by exact (HPN2.out.below HBB2.out).alloc.rows.1) (by rfl) (by exact own_rd (base := 0) (c := 1) (e := 25) (tmp_new _ _ _)) (by exact HU1.out _ _ _) (by exact HJB.out) ?_
                     intro A8 c8 w8 ho8 hch8 hfo8
                     have hch8' := (ch_alloc (Fo (.slice B (n1 + n2 + j) d)) w2 (.cells #[.slice A2' n2' c2'] 25)).trans hch8
                     have hbx := HPN2.out.boxW HBB2.out hch8'
                     have x8 := blk_cell hbx 2 rfl
                     have e8 := blk_free hbx 2
                     have HPM := Lib.hid (HPN2.out.addW HBB2.out HO2.out (row_nq HO2.out HXL.out) ho8 hch8' (al_hfq hfo8))
                     clear hbx ho8 hch8 hch8' hfo8)
                  | (go_simp
                     go_at_call 99
                     refine (clone_any _ At nt ct r (by have h := HRT2.out; exact h) (by exact HNX.out)).mono ?_
                     rintro e w2 ⟨A2', n2', c2', rfl, ho2, hb2⟩
                     have HBB2 := Lib.hid (und1 hb2)
                     have HO2 : Hid (w2.ownsRow wn.heap.size 2 1 (.slice A2' n2' c2') n2' (ints r)) := Lib.hid ho2
                     have x2b := (HPN2.out.below HBB2.out).y2
                     have x2a := ((HPN2.out.below HBB2.out).alloc (o := .cells #[.slice A2' n2' c2'] 25)).y2
                     clear ho2 hb2)))
              | fail)
            all_goals
              as_aux_lemma =>
              go_wp2_with fail
              go_roundw
              case rel => exact ⟨j + 1, A6, c6, A8, c8, _, by omega, by go_num, by have h := HPM.out; rw [HT1.out, HT2.out]; simpa [List.append_assoc, Nat.add_assoc] using h⟩
              case measure => simp [intOf]; omega
        · obtain rfl : n3 = j := by omega
          have e1 : (ss.map (fun x => x.getD 0 0)).take n3 = ss.map (fun x => x.getD 0 0) := List.take_of_length_le (by have h := HL3.out; simp; omega)
          have e2 : (ss.map (fun x => x.drop 1)).take n3 = ss.map (fun x => x.drop 1) := List.take_of_length_le (by have h := HL3.out; simp; omega)
          rw [e1, e2] at hpb
          have HPE := Lib.hid hpb
          have hzr := blk_bel HZ.out hpb.lo
          have z0 := blk_cell hzr 0 rfl
          have z1 := blk_cell hzr 1 rfl
          have z2 := blk_cell hzr 2 rfl
          have f0 := blk_free hzr 0
          have f1 := blk_free hzr 1
          have f2 := blk_free hzr 2
          have x0 := blk_cell hpb.box 0 rfl
          have x1 := blk_cell hpb.box 1 rfl
          have x2 := blk_cell hpb.box 2 rfl
          clear e1 e2 hpb HPB hzr hlt
          as_aux_lemma =>
          go_wp2_with fail
          exact bodyPost_ret (v := prfV 8 A (3 + n3) c B (n1 + n2 + n3) d) (by simp [results, Try.results135, go_sem, z0, z1, z2]) rfl (outq_end HPE.out HB.out (Nat.le_succ _) HZL.out)
end Go.Proofs.Ytcpkhhammafchaa
