/- Texts of programs (program): the closure of whileText. -/
import Derived.Test.YtadmbphefpfbmaaGreatDoorPqT
import Derived.Test.YtadmbphefpfbmaaGreatDoorPqG
import Derived.Lib.Join
import Derived.Deep.RegionLaw
namespace Go.Proofs.YtadmbphefpfbmaaGreatDoor
open Go.RowKit
set_option linter.unusedVariables false
set_option linter.unusedSimpArgs false
attribute [local go_sem ↓] Go.wp_at_zero Go.wp_at_succ
/-- The bytes as numbers. -/
def nm (s : ByteArray) : List Nat := s.data.toList.map (·.toNat)
theorem nm_app (a b : ByteArray) : nm (a ++ b) = nm a ++ nm b := by simp [nm]
theorem nm_size (s : ByteArray) : (nm s).length = s.size := by simp [nm]
theorem nm_inj {a b : ByteArray} (h : nm a = nm b) : a = b := by
  have h2 : a.data.toList = b.data.toList := by
    unfold nm at h
    exact (List.map_inj_right (fun x y e => UInt8.toNat_inj.1 e)).1 h
  have h3 : a.data = b.data := Array.toList_inj.1 h2
  cases a; cases b; simp at h3; rw [h3]
theorem nm_dec {d : Nat} (h : d ≤ 5) : nm (decB d) = [48 + d] := by
  match d, h with
  | 0, _ => rfl
  | 1, _ => rfl
  | 2, _ => rfl
  | 3, _ => rfl
  | 4, _ => rfl
  | 5, _ => rfl
theorem Ex.nm_bs : ∀ {x : Ex}, x.ok → nm x.bs = x.rn
  | .leaf z, h => by
    rcases h with rfl | ⟨d, hd, rfl⟩
    · rfl
    · rw [bs_v, nm_dec hd]; simp [Ex.rn, lf]
  | .un z a, h => by
    obtain ⟨h1, h2⟩ := h
    rcases h1 with rfl | rfl
    · rw [bs_3, nm_app, Ex.nm_bs h2]; rfl
    · rw [bs_4, nm_app, Ex.nm_bs h2]; rfl
  | .bin z a b, h => by
    obtain ⟨h1, h2, h3⟩ := h
    rcases h1 with rfl | rfl
    · rw [bs_2, nm_app, nm_app, nm_app, nm_app, Ex.nm_bs h2, Ex.nm_bs h3]
      simp only [Ex.rn, List.append_assoc]; rfl
    · rw [bs_5, nm_app, nm_app, nm_app, nm_app, Ex.nm_bs h2, Ex.nm_bs h3]
      simp only [Ex.rn, List.append_assoc]; rfl
def joinP (l : List ByteArray) : ByteArray := ⟨(Lib.join (l.map (·.data.toList)) [59]).toArray⟩
def setB (d : Nat) (x : Ex) : ByteArray := (decB d ++ ⟨#[61]⟩) ++ x.bs
def loopB (x : Ex) (t : ByteArray) : ByteArray := (((⟨#[119]⟩ ++ x.bs) ++ ⟨#[123]⟩) ++ t) ++ ⟨#[125]⟩
def Pg.parts : Pg → List ByteArray
  | .nil => []
  | .set d x r => setB d x :: r.parts
  | .loop x b r => loopB x (joinP b.parts) :: r.parts
theorem nm_join (l : List ByteArray) : nm (joinP l) = ((Lib.join (l.map (·.data.toList)) [59]).map (·.toNat)) := by simp [nm, joinP]
theorem tail_cons (y : List UInt8) (r : List (List UInt8)) : Lib.joinTail [59] (y :: r) = 59 :: (y ++ Lib.joinTail [59] r) := by simp [Lib.joinTail]
theorem Pg.nm_tail : ∀ {p : Pg}, p.ok → (Lib.joinTail [59] (p.parts.map (·.data.toList))).map (·.toNat) = p.tl ∧ nm (joinP p.parts) = p.tx
  | .nil, _ => ⟨rfl, rfl⟩
  | .set d x r, h => by
    obtain ⟨h1, h2, h3, h4⟩ := h
    have ih := (Pg.nm_tail h4).1
    have e : (setB d x).data.toList.map (·.toNat) = (48 + d) :: 61 :: x.rn := by
      show nm (setB d x) = _
      rw [setB, nm_app, nm_app, nm_dec h1, Ex.nm_bs h2]; rfl
    refine ⟨?_, ?_⟩
    · simp only [Pg.parts, List.map_cons, tail_cons, List.map_append, ih, e, Pg.tl]; simp
    · rw [nm_join]
      simp only [Pg.parts, List.map_cons, Lib.join_cons, List.map_append, ih, e, Pg.tx, Pg.tl]; simp
  | .loop x b r, h => by
    obtain ⟨h1, h2, h3, h4⟩ := h
    have ih := (Pg.nm_tail h4).1
    have ihb := (Pg.nm_tail h3).2
    have e : (loopB x (joinP b.parts)).data.toList.map (·.toNat) = 119 :: (x.rn ++ 123 :: (b.tx ++ [125])) := by
      show nm (loopB x (joinP b.parts)) = _
      rw [loopB, nm_app, nm_app, nm_app, nm_app, Ex.nm_bs h1, ihb]
      simp only [List.append_assoc]; rfl
    refine ⟨?_, ?_⟩
    · simp only [Pg.parts, List.map_cons, tail_cons, List.map_append, ih, e, Pg.tl, Pg.tx]; simp
    · rw [nm_join]
      simp only [Pg.parts, List.map_cons, Lib.join_cons, List.map_append, ih, e, Pg.tx, Pg.tl]; simp
theorem join_size {p : Pg} (h : p.ok) : (joinP p.parts).size = p.tx.length := by rw [← nm_size, (Pg.nm_tail h).2]
theorem bs_size_rn {x : Ex} (h : x.ok) : x.bs.size = x.rn.length := by rw [← nm_size, Ex.nm_bs h]
set_option maxHeartbeats 4000000 in
set_option maxRecDepth 100000 in
theorem textCloY_set (w : World) (lo B n : Nat) (vs : List Value) (d : Nat) (hd : d ≤ 5) (x : Ex) (hx : x.ok) (Av : Option Addr) (m cv : Nat) (Ab : Value) (hls : LsB w lo B n vs) (hn : n ≤ 1000) (hr : RdE w Av m x.els) (hm : m ≤ 1000) (hmc : m ≤ cv) (hlo : lo ≤ w.heap.size) :
    Calls Tryz.prog 177 #[.agg #[.int .i64 0, .int .i64 (d : Int), .int .i64 0, .slice Av m cv], Ab, .pointer (some ⟨B, 0, none⟩)] w (fun e w' => e = .returned (.tuple #[]) ∧ LsB w' lo B (n + 1) (vs ++ [.string (setB d x)]) ∧ Below lo w w') := by
  obtain ⟨A0, c0, hx0, ho, hlB⟩ := hls
  have HS : Hid (x.bs.size ≤ 5000) := Lib.hid (by have h1 := x.bs_size; have h2 := rdE_len hr; omega)
  have hbb := below_new w (.cells #[.int .i64 0, .int .i64 (d : Int), .int .i64 0, .slice Av m cv] 44)
  have hbx := box_new w #[.int .i64 0, .int .i64 (d : Int), .int .i64 0, .slice Av m cv] 44
  obtain ⟨w1, hw1⟩ : ∃ w1, w1 = w.alloc (.cells #[.int .i64 0, .int .i64 (d : Int), .int .i64 0, .slice Av m cv] 44) := ⟨_, rfl⟩
  rw [← hw1] at hbb hbx
  have HX := Lib.hid (blk_bel hx0 hbb)
  have HO := Lib.hid (own_below ho hbb (Nat.le_refl _))
  have HBX := Lib.hid hbx
  have HBB : Hid (Below lo w w1) := Lib.hid (hbb.mono hlo)
  have HT := Lib.hid (exprTextY_any x hx w1.drew Av m cv (show RdE w1 Av m x.els from hr.below hbb (Nat.le_refl _)) hm hmc)
  have HLB := Lib.hid hlB
  have HLO : Hid (lo ≤ w1.heap.size) := Lib.hid (Nat.le_trans hlo hbb.size)
  have HN : Hid (n ≤ 1099511627776) := Lib.hid (by omega)
  obtain ⟨D, hD⟩ : ∃ D, D = decB d := ⟨_, rfl⟩
  have hDs : D.size = 1 := by rw [hD]; rfl
  have HDD := Lib.hid (fun (w : World) => decimalV_any w d hd)
  rw [← hD] at HDD
  have HLN : Hid ((D ++ ⟨#[61]⟩) ++ x.bs = setB d x) := Lib.hid (by rw [hD]; rfl)
  rw [← HLN.out]
  clear hx0 ho hbx hbb hr hlB hlo hm hmc hn hD hd hx HLN
  go_enter Tryz.func177, Tryz.ntmps177
  go_upto_region 1 with fail
  rw [← hw1]
  clear hw1
  have z0 := blk_cell HBX.out 0 rfl
  have z1 := blk_cell HBX.out 1 rfl
  have z3 := blk_cell HBX.out 3 rfl
  have b0 := blk_cell HX.out 0 rfl
  have f0 := blk_free HX.out 0
  have hs : ¬ (9223372036854775807 < 2 + x.bs.size) := by have := HS.out; omega
  go_wp2_with fail
  (first | (go_region_law (first
    | (go_simp; go_at_call 104
       refine (HDD.out _).mono ?_
       rintro e w' ⟨rfl, rfl⟩)
    | (refine step_app1S eltStr (by rfl) _ _ (by rfl) w4 _ (.string ((D ++ ⟨#[61]⟩) ++ x.bs)) (by rfl) lo (.slice A0 n c0) n vs (by rfl) (by exact HO4.out) (by rfl) (by rfl) (by exact HL4.out) (by exact HN.out) ?_
       intro A9 c9 w9 ho9 hg9
       have HO9 := Lib.hid ho9
       have HX9 := Lib.hid (blk_ch HX4.out (ch_row hg9) (fun hf => by
         obtain ⟨cs, h1⟩ := own_foP HO4.out hf
         exact blk_ne HX4.out h1 (by decide) rfl))
       have HB9 : Hid (Below lo w w9) := Lib.hid (below_ch HB4.out (ch_row hg9) (fun q hq => (HO4.out.lt q hq).1) HL4.out)
       have HL9 : Hid (lo ≤ w9.heap.size) := Lib.hid (Nat.le_trans HL4.out hg9.size)
       have b0 := blk_cell HX9.out 0 rfl
       have f0 := blk_free HX9.out 0
       clear ho9 hg9)
    | (go_simp; go_at_call 66
       refine HT.out.mono ?_
       rintro e w4 ⟨rfl, hb4⟩
       replace hb4 : Below w1.heap.size w1 w4 := und1 hb4
       have HX4 := Lib.hid (blk_bel HX.out hb4)
       have HBX4 := Lib.hid (blk_bel HBX.out hb4)
       have HO4 := Lib.hid (own_below HO.out hb4 (Nat.le_refl _))
       have HB4 : Hid (Below lo w w4) := Lib.hid (HBB.out.trans (hb4.mono HLO.out))
       have HL4 : Hid (lo ≤ w4.heap.size) := Lib.hid (Nat.le_trans HLO.out hb4.size)
       have z0 := blk_cell HBX4.out 0 rfl
       have z1 := blk_cell HBX4.out 1 rfl
       have z3 := blk_cell HBX4.out 3 rfl
       have b0 := blk_cell HX4.out 0 rfl
       have f0 := blk_free HX4.out 0
       have b0a := blk_cell (blk_alloc HX4.out (.cells #[.string ((D ++ ⟨#[61]⟩) ++ x.bs)] 9)) 0 rfl
       have hl4 := blk_lt HX4.out
       clear hb4))) | fail)
  all_goals
    clear hs
    go_wp2_with fail
    go_end0
    refine ⟨rfl, ⟨A9, c9, ?_, ?_, HLB.out⟩, ?_⟩
    · simpa using blk_set HX9.out 0 (.slice A9 (n + 1) c9)
    · exact own_ch HO9.out (ch_set _ _ _ _) (fun q hq e => by
        obtain ⟨cs, h1⟩ := own_foP HO9.out hq
        have e2 : q = B := e
        subst e2
        exact blk_ne HX9.out h1 (by decide) rfl)
    · exact below_ch HB9.out (ch_set _ B 0 _) (fun q e => by rw [e]; exact HLB.out) HL9.out
set_option maxHeartbeats 4000000 in
set_option maxRecDepth 100000 in
theorem textCloY_loop (w : World) (lo B n : Nat) (vs : List Value) (l : Int) (x : Ex) (hx : x.ok) (Av : Option Addr) (m cv : Nat) (Ab : Option Addr) (mb cb : Nat) (T : ByteArray) (hT : T.size ≤ 100000) (hls : LsB w lo B n vs) (hn : n ≤ 1000) (hr : RdE w Av m x.els) (hm : m ≤ 1000) (hmc : m ≤ cv) (hlo : lo ≤ w.heap.size)
    (hwt : ∀ w2, Below w.heap.size w w2 → Calls Tryz.prog 141 #[.slice Ab mb cb] w2 (RetV w2 (.string T))) :
    Calls Tryz.prog 177 #[.agg #[.int .i64 1, .int .i64 0, .int .i64 l, .slice Av m cv], .slice Ab mb cb, .pointer (some ⟨B, 0, none⟩)] w (fun e w' => e = .returned (.tuple #[]) ∧ LsB w' lo B (n + 1) (vs ++ [.string (loopB x T)]) ∧ Below lo w w') := by
  obtain ⟨A0, c0, hx0, ho, hlB⟩ := hls
  have HS : Hid (x.bs.size ≤ 5000) := Lib.hid (by have h1 := x.bs_size; have h2 := rdE_len hr; omega)
  have hbb := below_new w (.cells #[.int .i64 1, .int .i64 0, .int .i64 l, .slice Av m cv] 44)
  have hbx := box_new w #[.int .i64 1, .int .i64 0, .int .i64 l, .slice Av m cv] 44
  obtain ⟨w1, hw1⟩ : ∃ w1, w1 = w.alloc (.cells #[.int .i64 1, .int .i64 0, .int .i64 l, .slice Av m cv] 44) := ⟨_, rfl⟩
  rw [← hw1] at hbb hbx
  have HX := Lib.hid (blk_bel hx0 hbb)
  have HO := Lib.hid (own_below ho hbb (Nat.le_refl _))
  have HBX := Lib.hid hbx
  have HBB : Hid (Below lo w w1) := Lib.hid (hbb.mono hlo)
  have HT := Lib.hid (exprTextY_any x hx w1.drew Av m cv (show RdE w1 Av m x.els from hr.below hbb (Nat.le_refl _)) hm hmc)
  have HWT : Hid (∀ w2, Below w1.heap.size w1 w2 → Calls Tryz.prog 141 #[.slice Ab mb cb] w2 (RetV w2 (.string T))) := Lib.hid (fun w2 hb2 => hwt w2 (hbb.trans (hb2.mono hbb.size)))
  have HLB := Lib.hid hlB
  have HLO : Hid (lo ≤ w1.heap.size) := Lib.hid (Nat.le_trans hlo hbb.size)
  have HN : Hid (n ≤ 1099511627776) := Lib.hid (by omega)
  have HTS := Lib.hid hT
  clear hx0 ho hbx hbb hr hlB hlo hm hmc hn hx hT hwt
  go_enter Tryz.func177, Tryz.ntmps177
  go_upto_region 1 with fail
  rw [← hw1]
  clear hw1
  have z0 := blk_cell HBX.out 0 rfl
  have z3 := blk_cell HBX.out 3 rfl
  have b0 := blk_cell HX.out 0 rfl
  have f0 := blk_free HX.out 0
  have hs0 : ¬ (9223372036854775807 < 1 + x.bs.size) := by have := HS.out; omega
  have hs1 : ¬ (9223372036854775807 < 1 + x.bs.size + 1) := by have := HS.out; omega
  have hs2 : ¬ (9223372036854775807 < 1 + x.bs.size + 1 + T.size) := by have := HS.out; have := HTS.out; omega
  have hs3 : ¬ (9223372036854775807 < 1 + x.bs.size + 1 + T.size + 1) := by have := HS.out; have := HTS.out; omega
  go_wp2_with fail
  (first | (go_region_law (first
    | (refine step_app1S eltStr (by rfl) _ _ (by rfl) w5 _ (.string ((((⟨#[119]⟩ ++ x.bs) ++ ⟨#[123]⟩) ++ T) ++ ⟨#[125]⟩)) (by rfl) lo (.slice A0 n c0) n vs (by rfl) (by exact HO5.out) (by rfl) (by rfl) (by exact HL5.out) (by exact HN.out) ?_
       intro A9 c9 w9 ho9 hg9
       have HO9 := Lib.hid ho9
       have HX9 := Lib.hid (blk_ch HX5.out (ch_row hg9) (fun hf => by
         obtain ⟨cs, h1⟩ := own_foP HO5.out hf
         exact blk_ne HX5.out h1 (by decide) rfl))
       have HB9 : Hid (Below lo w w9) := Lib.hid (below_ch HB5.out (ch_row hg9) (fun q hq => (HO5.out.lt q hq).1) HL5.out)
       have HL9 : Hid (lo ≤ w9.heap.size) := Lib.hid (Nat.le_trans HL5.out hg9.size)
       have b0 := blk_cell HX9.out 0 rfl
       have f0 := blk_free HX9.out 0
       clear ho9 hg9)
    | (go_simp; go_at_call 141
       refine (HWT4.out).mono ?_
       rintro e w5 ⟨rfl, hb5⟩
       have HX5 := Lib.hid (blk_bel HX4.out hb5)
       have HO5 := Lib.hid (own_below HO4.out hb5 (Nat.le_refl _))
       have HB5 : Hid (Below lo w w5) := Lib.hid (HB4.out.trans (hb5.mono HL4.out))
       have HL5 : Hid (lo ≤ w5.heap.size) := Lib.hid (Nat.le_trans HL4.out hb5.size)
       have b0 := blk_cell HX5.out 0 rfl
       have f0 := blk_free HX5.out 0
       have b0a := blk_cell (blk_alloc HX5.out (.cells #[.string ((((⟨#[119]⟩ ++ x.bs) ++ ⟨#[123]⟩) ++ T) ++ ⟨#[125]⟩)] 9)) 0 rfl
       have hl4 := blk_lt HX5.out
       clear hb5)
    | (go_simp; go_at_call 66
       refine HT.out.mono ?_
       rintro e w4 ⟨rfl, hb4⟩
       replace hb4 : Below w1.heap.size w1 w4 := und1 hb4
       have HX4 := Lib.hid (blk_bel HX.out hb4)
       have HO4 := Lib.hid (own_below HO.out hb4 (Nat.le_refl _))
       have HB4 : Hid (Below lo w w4) := Lib.hid (HBB.out.trans (hb4.mono HLO.out))
       have HL4 : Hid (lo ≤ w4.heap.size) := Lib.hid (Nat.le_trans HLO.out hb4.size)
       have HWT4 := Lib.hid (HWT.out w4 hb4)
       have b0 := blk_cell HX4.out 0 rfl
       have f0 := blk_free HX4.out 0
       clear hb4))) | fail)
  all_goals
    clear hs0 hs1 hs2 hs3
    go_wp2_with fail
    go_end0
    refine ⟨rfl, ⟨A9, c9, ?_, ?_, HLB.out⟩, ?_⟩
    · simpa using blk_set HX9.out 0 (.slice A9 (n + 1) c9)
    · exact own_ch HO9.out (ch_set _ _ _ _) (fun q hq e => by
        obtain ⟨cs, h1⟩ := own_foP HO9.out hq
        have e2 : q = B := e
        subst e2
        exact blk_ne HX9.out h1 (by decide) rfl)
    · exact below_ch HB9.out (ch_set _ B 0 _) (fun q e => by rw [e]; exact HLB.out) HL9.out
end Go.Proofs.YtadmbphefpfbmaaGreatDoor
