/- Texts of expressions of one variable (program): digits, texts. -/
import Derived.Test.YtaadobggenbbdaaGreatDoorPkA
import Derived.Deep.DrawnRows
import Derived.Laws.Concat
import Derived.Laws.DeepStrings4
namespace Go.Proofs.YtaadobggenbbdaaGreatDoor
open Go.RowKit
set_option linter.unusedVariables false
set_option linter.unusedSimpArgs false
attribute [local go_sem ↓] Go.wp_at_zero Go.wp_at_succ
set_option maxHeartbeats 400000 in
theorem small0_any (w : World) : Calls Tryz.prog 170 #[.int .i64 0] w fun e w' => e = .returned (.string ⟨#[48]⟩) ∧ w = w' := by
  go_enter Tryz.func170, Tryz.ntmps170
  go_wp2_with fail
  go_ret
  exact ⟨rfl, rfl⟩
set_option maxHeartbeats 400000 in
theorem format0I_any (w : World) : Calls Tryz.prog 165 #[.int .i64 0, .int .i64 10] w fun e w' => e = .returned (.string ⟨#[48]⟩) ∧ w = w' := by
  go_enter Tryz.func165, Tryz.ntmps165
  go_wp2_with (go_at_call 170; refine (small0_any _).mono ?_; rintro e w' ⟨rfl, rfl⟩)
  go_ret
  exact ⟨rfl, rfl⟩
set_option maxHeartbeats 400000 in
theorem format0_any (w : World) : Calls Tryz.prog 157 #[.int .i64 0, .int .i64 10] w fun e w' => e = .returned (.string ⟨#[48]⟩) ∧ w = w' := by
  go_enter Tryz.func157, Tryz.ntmps157
  go_wp2_with (go_at_call 165; refine (format0I_any _).mono ?_; rintro e w' ⟨rfl, rfl⟩)
  go_ret
  exact ⟨rfl, rfl⟩
set_option maxHeartbeats 400000 in
theorem decimal0_any (w : World) : Calls Tryz.prog 136 #[.int .i64 0] w fun e w' => e = .returned (.string ⟨#[48]⟩) ∧ w = w' := by
  go_enter Tryz.func136, Tryz.ntmps136
  go_wp2_with (go_at_call 157; refine (format0_any _).mono ?_; rintro e w' ⟨rfl, rfl⟩)
  go_ret
  exact ⟨rfl, rfl⟩
def Tx.bs : Tx → ByteArray
  | .v => ⟨#[48]⟩
  | .h a => ⟨#[104]⟩ ++ a.bs
  | .t a => ⟨#[116]⟩ ++ a.bs
  | .p a b => (((⟨#[40]⟩ ++ a.bs) ++ ⟨#[46]⟩) ++ b.bs) ++ ⟨#[41]⟩
def Tx.kids : Tx → List Tx
  | .v => []
  | .h a => [a]
  | .t a => [a]
  | .p a b => [a, b]
theorem Tx.kids_ops (x : Tx) : x.ex.ops = x.kids.map Tx.ex := by cases x <;> rfl
theorem Tx.bs_size : ∀ x : Tx, x.bs.size ≤ 5 * x.els.length
  | .v => by simp [Tx.bs, Tx.els, Tx.ex, Ex.els, ByteArray.size]
  | .h a => by
    have h := a.bs_size
    simp only [Tx.bs, Tx.els, Tx.ex, Ex.els, List.length_cons, ByteArray.size_append', ByteArray.size_mk'] at *
    simp; omega
  | .t a => by
    have h := a.bs_size
    simp only [Tx.bs, Tx.els, Tx.ex, Ex.els, List.length_cons, ByteArray.size_append', ByteArray.size_mk'] at *
    simp; omega
  | .p a b => by
    have h := a.bs_size
    have h2 := b.bs_size
    simp only [Tx.bs, Tx.els, Tx.ex, Ex.els, List.length_cons, List.length_append, ByteArray.size_append', ByteArray.size_mk'] at *
    simp; omega
theorem infoStr : (Tryz.prog.info? 9).map (fun i => (i.zero, i.size, i.bytes)) = some (some (.string ⟨#[]⟩), 1, 16) := by kernel_rfl
theorem eltStr : Elt Tryz.prog 164 9 (.string ⟨#[]⟩) := Elt.mk_ Tryz.underlying164 infoStr rfl (by decide)
def TxtP (w : World) (x : Tx) (e : Ending) (w' : World) : Prop := e = .returned (.string x.bs) ∧ Below w.heap.size w w'
abbrev strsV (ts : List Tx) : List Value := ts.map (fun t => Value.string t.bs)
theorem kids_le {x y : Tx} (h : y ∈ x.kids) : y.els.length ≤ x.els.length := by
  cases x with
  | v => simp [Tx.kids] at h
  | h a => simp only [Tx.kids, List.mem_singleton] at h; subst h; simp [Tx.els, Tx.ex, Ex.els]
  | t a => simp only [Tx.kids, List.mem_singleton] at h; subst h; simp [Tx.els, Tx.ex, Ex.els]
  | p a b =>
    simp only [Tx.kids, List.mem_cons, List.not_mem_nil, or_false] at h
    rcases h with rfl | rfl <;> simp [Tx.els, Tx.ex, Ex.els] <;> omega
/-- A row of one element type grows: the blocks that change are of that type, or new. -/
theorem chT_grow {w2 w4 w5 : World} {T B s n : Nat} {v : Value} {vs : List Value} (h : Ch (fun q => ∃ cs, w2.heap[q]? = some (.cells cs T (0, 0))) w2 w4) (ho : w4.ownsRow B T s v n vs) (hg : w4.grownBy w5 v.ownBlock) : Ch (fun q => ∃ cs, w2.heap[q]? = some (.cells cs T (0, 0))) w2 w5 :=
  ⟨hg.os.trans h.os, hg.tape.trans h.tape, hg.output.trans h.output, Nat.le_trans h.size hg.size, fun q hq hn => by
    have e1 := h.block q hq hn
    have hb : ¬ v.ownBlock = some q := fun hb => by
      rcases ho.2 with ⟨rfl, _⟩ | ⟨k, _, cs, rfl, _, hk, _⟩
      · cases hb
      · have e2 : k = q := by simpa [Value.ownBlock] using hb
        subst e2
        exact hn ⟨cs, e1.symm.trans hk⟩
    exact (hg.block q (Nat.lt_of_lt_of_le hq h.size) (fun e => hb e.symm)).trans e1⟩
def OpPostS (w00 w : World) (x : Ex) (e : Ending) (w' : World) : Prop := ∃ (A : Option Addr) (c : Nat) (vs : List Value), e = .returned (.slice A x.ops.length c) ∧ w'.ownsRow w.heap.size 51 1 (.slice A x.ops.length c) x.ops.length vs ∧ PartsOk w00 vs x.ops ∧ Below w.heap.size w w'
set_option maxHeartbeats 2000000 in
theorem operandsS_any (w00 w : World) (hb00 : Below w00.heap.size w00 w) (A : Option Addr) (n c : Nat) (x : Ex) (hg : x.good) (hr0 : RdE w00 A n x.els) (hn : n ≤ 1000000000) (hnc : n ≤ c) : Calls Tryz.prog 139 #[.slice A n c] w (OpPostS w00 w x) := by
  have hr := hr0.below hb00 (Nat.le_refl _)
  have HR0 := Lib.hid hr0
  have HL : Hid (x.els.length = n) := Lib.hid (rdE_len hr)
  clear hr0 hb00
  have hpos := x.els_pos
  rw [HL.out] at hpos
  obtain ⟨b, off, rfl, hbs, q0, q1⟩ := rdE hr x.els_top
  have HN := Lib.hid (x.ops_len hg)
  have HG := Lib.hid hg
  have hf := fol_le x.top
  generalize hop : x.top = tp at *
  have HT := Lib.hid hop
  clear hop hg
  obtain ⟨k, v⟩ := tp
  simp only [Nat.zero_mul, Nat.add_zero] at q0 q1
  have hlit := own_lit w #[] 0 51 rfl (by omega)
  have hbb := below_new w (.cells #[] 51)
  have HR := Lib.hid hr
  clear hr
  generalize hfx : fol (k, v) = m at *
  have HM := Lib.hid hfx
  clear hfx
  go_enter Tryz.func139, Tryz.ntmps139
  go_wp2_with (go_at_call 122; go_must (refine (exprFollow_any _ _ _).mono ?_; rintro e w2 ⟨rfl, hb2⟩; rw [HM.out]))
  have hown2 := own_below hlit hb2 (Nat.le_refl _)
  have hB2 := hbb.trans (hb2.mono hbb.size)
  clear hlit hbb q0 q1 hb2
  go_loopw [3, 4, 11] (fun p f q wr => ∃ (i : Nat) (A : Option Addr) (c' : Nat) (vs : List Value), i ≤ m ∧ q = .int .i64 i ∧ f = .int .i64 (opPos x i) ∧ p = .slice A i c' ∧ wr.ownsRow w.heap.size 51 1 (.slice A i c') i vs ∧ PartsOk w00 vs (x.ops.take i) ∧ Below w.heap.size w wr) (fun _ _ q _ => m - (intOf q).toNat)
  case atStart => exact ⟨0, _, _, [], by omega, rfl, rfl, rfl, hown2, ⟨by simp, by simp⟩, hB2⟩
  case round =>
    clear hown2 hB2
    obtain ⟨i, A, c', vs, hi, rfl, rfl, rfl, hown, hp, hb⟩ := hrel
    by_cases hlt : i < m
    · have hlt' : (i : Int) < (m : Int) := by omega
      obtain ⟨y, hy⟩ := get_some (xs := x.ops) (k := i) (by rw [HN.out]; exact hlt)
      have HE := Lib.hid (opPos_end HG.out hy)
      have HNX := Lib.hid (opPos_next hy)
      have hpn : opPos x i < opPos x (i + 1) := by have := HNX.out; have := y.els_pos; omega
      have hpl : opPos x (i + 1) ≤ n := by have := opPos_le x (i + 1); rw [HL.out] at this; exact this
      have HC := Lib.hid (by have h := rdE_cut HR0.out (i := opPos x i) (j := opPos x (i + 1)) (by omega) hpl; rw [opPos_cut hy] at h; exact h)
      have HY : Hid (x.ops.take (i + 1) = x.ops.take i ++ [y]) := Lib.hid (by rw [List.take_add_one, hy]; rfl)
      have hr' := HR.out.below hb (Nat.le_refl _)
      clear hy
      generalize hp1 : opPos x i = p1 at *
      generalize hp2 : opPos x (i + 1) = p2 at *
      have HP2 := Lib.hid hp2
      have HP1 := Lib.hid hp1
      clear hp1 hp2
      go_wp2_with fail
      refine (termEndE_any _ _ _ _ _ hr' hn p1 (by omega)).mono ?_
      rw [HE.out]
      rintro e w3 ⟨rfl, hb3⟩
      have hown3 := own_below hown hb3 (Nat.le_refl _)
      have hB3 := hb.trans (hb3.mono hb.size)
      clear hown hb hb3 hr'
      have g1 : (p1 : Int) ≤ (p2 : Int) := by omega
      have g2 : (p2 : Int) ≤ (c : Int) := by omega
      have g3 : ¬ (c = p1) := by omega
      go_wp2_with (at_builtin; go_must (refine wpList_app1g eltXS rfl _ _ rfl w3 w.heap.size _ i _ (by rfl) hown3 _ (by rfl) (by rfl) hB3.size (by omega) ?_; rintro A4 c4 w4 hown4 hb4 hg4))
      go_roundw
      case rel => exact ⟨i + 1, A4, c4, _, by omega, by go_num, by rw [HP2.out], rfl, hown4, by rw [HY.out]; exact hp.snoc (by omega) HC.out, hB3.trans hb4⟩
      case measure => simp [intOf]; omega
    · obtain rfl : i = m := by omega
      go_wp2_with fail
      go_ret
      have hb' : Below w.heap.size w wr := hb
      refine ⟨A, c', vs, ?_, ?_, ?_, hb⟩
      · rw [HN.out]; rfl
      · rw [HN.out]; exact hown
      · rw [List.take_of_length_le (by rw [HN.out]; omega)] at hp; exact hp
theorem own_foP {w : World} {base e s n : Nat} {v : Value} {vs : List Value} (h : w.ownsRow base e s v n vs) {k : Nat} (hk : Fo v k) : ∃ cs, w.heap[k]? = some (.cells cs e (0, 0)) := by
  rcases h.2 with ⟨rfl, _⟩ | ⟨g, _, cs, rfl, _, hg, _⟩
  · cases hk
  · have e1 : g = k := by simpa [Fo, Value.ownBlock] using hk
    exact ⟨cs, e1 ▸ hg⟩
theorem bqcP {a V W : World} (hc : Below V.heap.size V W) (h : Below a.heap.size a V) : Below a.heap.size a W := h.trans (hc.mono h.size)
set_option maxHeartbeats 8000000 in
set_option maxRecDepth 100000 in
theorem exprText_step (x : Tx) (ih : ∀ y ∈ x.kids, ∀ (w : World) (A : Option Addr) (n c : Nat), RdE w A n y.els → n ≤ 1000 → n ≤ c → Calls Tryz.prog 137 #[.slice A n c] w (TxtP w y))
    (w : World) (A : Option Addr) (n c : Nat) (hr : RdE w A n x.els) (hn : n ≤ 1000) (hnc : n ≤ c) : Calls Tryz.prog 137 #[.slice A n c] w (TxtP w x) := by
  have hl := rdE_len hr
  have HIH := Lib.hid ih
  obtain ⟨w1, hw1⟩ : ∃ w1, w1 = w.alloc (.cells #[] 9) := ⟨_, rfl⟩
  have hb1 : Below w.heap.size w w1 := by rw [hw1]; exact below_new _ _
  have HB1 := Lib.hid hb1
  have HO1 : Hid (w1.ownsRow w.heap.size 9 1 (.slice (some ⟨w.heap.size, 0, none⟩) 0 0) 0 []) := Lib.hid (by rw [hw1]; exact own_lit w #[] 0 9 rfl (by omega))
  have hop := operandsS_any w w1 hb1 A n c x.ex x.good hr (by omega) hnc
  unfold OpPostS at hop
  rw [x.kids_ops] at hop
  have HOP := Lib.hid hop
  clear hop
  have HK : Hid (x.ex.ops.length = x.kids.length) := Lib.hid (by rw [x.kids_ops, List.length_map])
  have HR := Lib.hid hr; have HL := Lib.hid hl; have HN := Lib.hid hn
  obtain ⟨M, hM⟩ : ∃ M, M = x.kids.length := ⟨_, rfl⟩
  have HM := Lib.hid hM
  have HMB : Hid (M ≤ 2) := Lib.hid (by rw [hM]; cases x <;> simp [Tx.kids])
  clear ih hr hl hb1 hM hnc
  go_enter Tryz.func137, Tryz.ntmps137
  go_upto_region 2 with fail
  rw [← hw1]
  clear hw1
  go_wp2_with (go_at_call 139
               refine HOP.out.mono ?_
               rintro e w2 ⟨A2, c2, vs, rfl, ho2, hp2, hb2⟩
               rw [List.length_map, ← HM.out] at ho2 ⊢
               have HO2 := Lib.hid ho2
               have HP2 := Lib.hid hp2
               have HQ2 := Lib.hid (own_below HO1.out hb2 (Nat.le_refl _))
               have HB2 : Hid (Below w.heap.size w w2) := Lib.hid (HB1.out.trans (hb2.mono HB1.out.size))
               clear ho2 hp2 hb2 HOP)
  go_loopw [3, 10] (fun v q wr => ∃ (k : Nat) (A3 : Option Addr) (c3 : Nat), k ≤ M ∧ q = .int .i64 k ∧ v = .slice A3 k c3 ∧ Hid (wr.ownsRow w.heap.size 9 1 (.slice A3 k c3) k (strsV (x.kids.take k))) ∧ Hid (Ch (fun q => ∃ cs, w2.heap[q]? = some (.cells cs 9 (0, 0))) w2 wr) ∧ Hid (Below w.heap.size w wr)) (fun _ q _ => M - (intOf q).toNat)
  case atStart => exact ⟨0, _, _, Nat.zero_le _, by go_num, rfl, Lib.hid (by simpa using HQ2.out), Lib.hid (Ch.refl _ _), HB2⟩
  case round =>
    obtain ⟨k, A3, c3, hk, rfl, rfl, HO, HC, HB⟩ := hrel
    by_cases hlt : k < M
    · skip
      obtain ⟨y, hy⟩ := get_some (xs := x.kids) (k := k) (by rw [← HM.out]; exact hlt)
      obtain ⟨v, hv⟩ := get_some (xs := vs) (k := k) (by rw [HP2.out.1, List.length_map, ← HM.out]; exact hlt)
      obtain ⟨Ay, my, cy, rfl, hmc, hry⟩ := HP2.out.2 k v y.ex hv (by rw [List.getElem?_map, hy]; rfl)
      obtain ⟨b, off, rfl, hbl, q0⟩ := (own_rd (own_ch HO2.out HC.out (fun q hq ⟨cs, e⟩ => by
        obtain ⟨ds, h1⟩ := own_foP HO2.out hq
        exact blk_ne h1 e (by decide) rfl))).at_ hv
      have hmy : my ≤ 1000 := by
        have h1 := rdE_len hry
        have h2 := kids_le (List.mem_of_getElem? hy)
        have h3 := HL.out
        have h4 := HN.out
        have h5 : y.ex.els.length = y.els.length := rfl
        omega
      have HI := Lib.hid (HIH.out y (List.mem_of_getElem? hy) wr Ay my cy (hry.below HB.out (Nat.le_refl _)) hmy hmc)
      have HS : Hid (strsV (x.kids.take (k + 1)) = strsV (x.kids.take k) ++ [.string y.bs]) := Lib.hid (by rw [List.take_add_one, hy]; simp)
      have hlt' : (k : Int) < (M : Int) := by omega
      have hk0 : (0 : Int) ≤ (k : Int) := by omega
      have hmb := HMB.out
      have HKN : Hid (k ≤ 1099511627776) := Lib.hid (by have := HMB.out; omega)
      clear hy hv hry hmc hmy
      go_wp2_with (first
        | (go_at_call 137
           refine HI.out.mono ?_
           rintro e w4 ⟨rfl, hb4⟩
           have HO4 := Lib.hid (own_below HO.out hb4 (Nat.le_refl _))
           have HB4 : Hid (Below w.heap.size w w4) := Lib.hid (bqcP hb4 HB.out)
           have HC4 := Lib.hid (HC.out.trans (ch_below hb4))
           have HZ4 : Hid (w.heap.size ≤ w4.heap.size) := Lib.hid HB4.out.size
           clear hb4)
        | (at_builtin; go_must (refine wpList_app1g eltStr rfl _ _ rfl w4 w.heap.size _ k _ (by rfl) HO4.out _ (by rfl) (by rfl) HZ4.out HKN.out ?_); rintro A5 c5 w5 ho5 hb5 hg5
           have HO5 := Lib.hid ho5
           have HB5 : Hid (Below w.heap.size w w5) := Lib.hid (HB4.out.trans hb5)
           have HC5 := Lib.hid (chT_grow HC4.out HO4.out hg5)
           clear ho5 hb5 hg5))
      go_roundw
      case rel => exact ⟨k + 1, A5, c5, by omega, by go_num, rfl, Lib.hid (by rw [HS.out]; exact HO5.out), HC5, HB5⟩
      case measure => simp [intOf]; omega
    · skip
      have hkM : k = M := by omega
      subst hkM
      have hE : x.kids.take k = x.kids := List.take_of_length_le (by rw [← HM.out]; omega)
      have ho := HO.out
      rw [hE] at ho
      have HO9 := Lib.hid ho
      have hre := HR.out.below HB.out (Nat.le_refl _)
      have HS := Lib.hid x.bs_size
      have HM2 : Hid (x.kids.length = k) := Lib.hid HM.out.symm
      clear ho hE HO HIH HP2 HO2 HQ2 HK
      cases x with
      | v =>
        skip
        obtain ⟨b, off, rfl, hbl, q0, q1⟩ := rdE hre (x := (1, 0)) (k := 0) rfl
        have hl0 : (0 : Int) < (n : Int) := by have := HL.out; simp [Tx.els, Tx.ex, Ex.els] at this; omega
        have hl1 : 0 < n := by omega
        simp only [Nat.zero_mul, Nat.add_zero] at q0 q1
        clear hre
        go_wp2_with (go_at_call 136; refine (decimal0_any _).mono ?_; rintro e w' ⟨rfl, rfl⟩)
        go_ret
        exact ⟨rfl, HB.out⟩
      | h a =>
        skip
        have hk1 : k = 1 := by have := HM2.out; simp [Tx.kids] at this; omega
        subst hk1
        obtain ⟨b, off, rfl, hbl, q0, q1⟩ := rdE hre (x := (3, 0)) (k := 0) rfl
        have hl0 : (0 : Int) < (n : Int) := by have := HL.out; simp [Tx.els, Tx.ex, Ex.els] at this; omega
        have hl1 : 0 < n := by omega
        simp only [Nat.zero_mul, Nat.add_zero] at q0 q1
        obtain ⟨g, rfl, -, -, t0, -⟩ := own_get HO9.out (k := 0) (u := .string a.bs) rfl
        have hs : a.bs.size ≤ 100000 := by
          have h1 := HS.out; have h2 := HL.out; have h3 := HN.out
          simp only [Tx.bs, ByteArray.size_append', ByteArray.size_mk'] at h1
          simp at h1
          omega
        have hsz : ¬ (1 + a.bs.size > 9223372036854775807) := by omega
        clear hre HO9 HS
        go_wp2_with fail
        go_ret
        exact ⟨rfl, HB.out⟩
      | t a =>
        skip
        have hk1 : k = 1 := by have := HM2.out; simp [Tx.kids] at this; omega
        subst hk1
        obtain ⟨b, off, rfl, hbl, q0, q1⟩ := rdE hre (x := (4, 0)) (k := 0) rfl
        have hl0 : (0 : Int) < (n : Int) := by have := HL.out; simp [Tx.els, Tx.ex, Ex.els] at this; omega
        have hl1 : 0 < n := by omega
        simp only [Nat.zero_mul, Nat.add_zero] at q0 q1
        obtain ⟨g, rfl, -, -, t0, -⟩ := own_get HO9.out (k := 0) (u := .string a.bs) rfl
        have hs : a.bs.size ≤ 100000 := by
          have h1 := HS.out; have h2 := HL.out; have h3 := HN.out
          simp only [Tx.bs, ByteArray.size_append', ByteArray.size_mk'] at h1
          simp at h1
          omega
        have hsz : ¬ (1 + a.bs.size > 9223372036854775807) := by omega
        clear hre HO9 HS
        go_wp2_with fail
        go_ret
        exact ⟨rfl, HB.out⟩
      | p a b' =>
        skip
        have hk1 : k = 2 := by have := HM2.out; simp [Tx.kids] at this; omega
        subst hk1
        obtain ⟨b, off, rfl, hbl, q0, q1⟩ := rdE hre (x := (2, 0)) (k := 0) rfl
        have hl0 : (0 : Int) < (n : Int) := by have := HL.out; simp [Tx.els, Tx.ex, Ex.els] at this; omega
        have hl1 : 0 < n := by omega
        simp only [Nat.zero_mul, Nat.add_zero] at q0 q1
        obtain ⟨g, rfl, -, -, t0, -⟩ := own_get HO9.out (k := 0) (u := .string a.bs) rfl
        obtain ⟨g', hg', -, -, t1, -⟩ := own_get HO9.out (k := 1) (u := .string b'.bs) rfl
        injection hg' with hg'
        injection hg' with hg'
        subst hg'
        have hs : a.bs.size ≤ 100000 ∧ b'.bs.size ≤ 100000 := by
          have h1 := HS.out; have h2 := HL.out; have h3 := HN.out
          simp only [Tx.bs, ByteArray.size_append', ByteArray.size_mk'] at h1
          simp at h1
          omega
        obtain ⟨hs1, hs2⟩ := hs
        clear hre HO9 HS
        go_wp2_with fail
        go_quiet (fail)
        go_wp2_with fail
        go_ret
        exact ⟨rfl, below_drewN HB.out⟩
theorem exprText_any (x : Tx) : ∀ (w : World) (A : Option Addr) (n c : Nat), RdE w A n x.els → n ≤ 1000 → n ≤ c → Calls Tryz.prog 137 #[.slice A n c] w (TxtP w x) := by
  induction x with
  | v => intro w A n c hr hn hnc; exact exprText_step .v (by simp [Tx.kids]) w A n c hr hn hnc
  | h a ih => intro w A n c hr hn hnc; exact exprText_step (.h a) (by intro y hy; simp only [Tx.kids, List.mem_singleton] at hy; subst hy; exact ih) w A n c hr hn hnc
  | t a ih => intro w A n c hr hn hnc; exact exprText_step (.t a) (by intro y hy; simp only [Tx.kids, List.mem_singleton] at hy; subst hy; exact ih) w A n c hr hn hnc
  | p a b iha ihb => intro w A n c hr hn hnc; exact exprText_step (.p a b) (by intro y hy; simp only [Tx.kids, List.mem_cons, List.not_mem_nil, or_false] at hy; rcases hy with rfl | rfl; exact iha; exact ihb) w A n c hr hn hnc
end Go.Proofs.YtaadobggenbbdaaGreatDoor
