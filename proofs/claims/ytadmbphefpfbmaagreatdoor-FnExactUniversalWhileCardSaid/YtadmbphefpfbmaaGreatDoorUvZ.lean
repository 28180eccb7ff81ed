/- The universal program: strings.Replacer: Replace. -/
import Derived.Test.YtadmbphefpfbmaaGreatDoorUvV
import Derived.Test.YtadmbphefpfbmaaGreatDoorUvY
import Derived.Test.YtadmbphefpfbmaaGreatDoorUvN
namespace Go.Proofs.YtadmbphefpfbmaaGreatDoor
open Go.RowKit
set_option linter.unusedVariables false
set_option linter.unusedSimpArgs false
attribute [local go_sem ↓] Go.wp_at_zero Go.wp_at_succ
set_option maxRecDepth 100000 in
set_option maxHeartbeats 8000000 in
theorem genReplace_any (B0 : Nat) (v8 v10 v11 : ByteArray) (w : World) (r : Nat) (s t : ByteArray) (hT : TrS B0 v8 v10 v11 w r 3) (hrp : Rp (nm v8) (nm v10) (nm v11) (nm s) (nm t)) (hs : s.size ≤ 100000) (ht : t.size ≤ 500000) :
    Calls Tryz.prog 281 #[ptr r, .string s] w fun e w' => e = .returned (.string t) ∧ Below w.heap.size w w' := by
  have hmk := run_mkBuf w s.size (by omega)
  obtain ⟨w1, hw1⟩ : ∃ w1, w1 = w.alloc (.cells (madeCells #[.int .u8 0] s.size) 5) := ⟨_, rfl⟩
  have ho1 : w1.ownsRow w.heap.size 5 1 (.slice (some ⟨w.heap.size, 0, none⟩) 0 s.size) 0 [] := by rw [hw1]; exact own_mkBuf w s.size (by omega)
  have hb1 : Below w.heap.size w w1 := by rw [hw1]; exact below_new _ _
  have hs1 : w1.heap.size = w.heap.size + 1 := by rw [hw1]; simp
  rw [← hw1] at hmk
  obtain ⟨w2, hw2⟩ : ∃ w2, w2 = w1.alloc (.cells #[.slice (some ⟨w.heap.size, 0, none⟩) 0 s.size] 317) := ⟨_, rfl⟩
  have hb2 : Below w.heap.size w w2 := by rw [hw2]; exact hb1.alloc hb1.size _
  have HBF : Hid (BufAt w2 w.heap.size w1.heap.size []) := Lib.hid ⟨some ⟨w.heap.size, 0, none⟩, s.size, by rw [hw2]; exact box_new _ _ _, by rw [hw2]; exact ownN_below ho1 (below_new _ _) (Nat.le_refl _)⟩
  have HB2 := Lib.hid hb2
  have HTB : Hid (∀ w', Below w.heap.size w2 w' → TrS B0 v8 v10 v11 w' r 3) := Lib.hid (fun w' hb => trS_below hT (HB2.out.trans hb))
  have HGW := Lib.hid (genWrite_any B0 v8 v10 v11 w2 r w1.heap.size w.heap.size s (nm t) (HTB.out w2 (Below.refl _ _)) hrp hs (by rw [nm_size]; exact ht) HBF.out HB2.out.size (by omega) HTB.out)
  clear hw1 ho1 hb1 hs1 hb2 hT hrp hs ht
  go_enter Tryz.func281, Tryz.ntmps281
  go_upto_region 2 with fail
  rw [← hw2]
  clear hw2 hmk
  go_upto_region 3 with (go_at_call 282
                         refine HGW.out.mono ?_
                         rintro e w3 ⟨nn, rfl, hbuf, hbel⟩
                         have HBF3 := Lib.hid hbuf
                         have HB3 := Lib.hid (HB2.out.trans hbel)
                         clear hbuf hbel)
  obtain ⟨A, c, x0, hcv⟩ := bufStr w3 _ _ t HBF3.out
  clear HBF HBF3 HGW HTB HB2
  go_wp2_with fail
  go_ret
  exact ⟨rfl, HB3.out⟩
/-- A replacer that has not yet been used. -/
def RpF (v8 v10 v11 : ByteArray) (w : World) (p : Nat) : Prop := ∃ A c, w.heap[p]? = some (.cells #[.int .u32 0, .int .i32 0, .int .u32 0, .nilIface, .slice A 6 c] 102 (0, 0)) ∧ Rd w A 6 (usV v8 v10 v11) ∧ ∀ b off s, A = some ⟨b, off, s⟩ → b ≠ p
/-- A replacer whose tables are made. -/
def RpB (v8 v10 v11 : ByteArray) (w : World) (p : Nat) : Prop := ∃ B r, p < B ∧ w.heap[p]? = some (.cells #[.int .u32 1, .int .i32 0, .int .u32 0, .iface 192 (ptr r), .slice none 0 0] 102 (0, 0)) ∧ TrS B v8 v10 v11 w r 3
theorem trS_ch {B p : Nat} {v8 v10 v11 : ByteArray} {w w' : World} {r : Nat} (h : TrS B v8 v10 v11 w r 3) (hc : Ch (· = p) w w') (hp : p < B) : TrS B v8 v10 v11 w' r 3 := by
  obtain ⟨T, N, M, U, K, L, V, J, hB, hg, hT, hn, hu, hm, hk, hv, hl, hj⟩ := h
  exact ⟨T, N, M, U, K, L, V, J, hB, blk_ch hg hc (by omega), blk_ch hT hc (by omega), blk_ch hn hc (by omega), blk_ch hu hc (by omega), blk_ch hm hc (by omega), blk_ch hk hc (by omega), blk_ch hv hc (by omega), blk_ch hl hc (by omega), blk_ch hj hc (by omega)⟩
theorem rd_ch {A : Option Addr} {n p : Nat} {vs : List Value} {w w' : World} (h : Rd w A n vs) (hc : Ch (· = p) w w') (hp : ∀ b off s, A = some ⟨b, off, s⟩ → b ≠ p) : Rd w' A n vs := by
  refine ⟨h.1, fun hn => ?_⟩
  obtain ⟨b, off, e, hlt, hcell⟩ := h.2 hn
  refine ⟨b, off, e, Nat.lt_of_lt_of_le hlt hc.size, fun j u hu => ?_⟩
  have h1 := hc.block b hlt (hp b off none e)
  have h2 := hcell j u hu
  unfold World.cell? at h2 ⊢
  rw [h1]; exact h2
set_option maxRecDepth 100000 in
set_option maxHeartbeats 8000000 in
theorem rpBuild_any (v8 v10 v11 : ByteArray) (w : World) (p c : Nat) (A : Option Addr) (x4 : w.cell? ⟨p, 4, none⟩ = some (.slice A 6 c)) (hr : Rd w A 6 (usV v8 v10 v11)) :
    Calls Tryz.prog 110 #[ptr p] w fun e w' => ∃ r, e = .returned (.iface 192 (ptr r)) ∧ TrS w.heap.size v8 v10 v11 w' r 3 ∧ Below w.heap.size w w' := by
  have HM := Lib.hid (makeGen_any w A c v8 v10 v11 hr)
  obtain ⟨g, off, rfl, hg, q0⟩ := hr.at_ (k := 0) (u := .string ⟨#[84, 56]⟩) rfl
  rw [Nat.add_zero] at q0
  clear hg hr
  go_enter Tryz.func110, Tryz.ntmps110
  go_upto_region 6 with fail
  go_loopw [5] (fun u wr => u = .int .i64 0 ∧ wr = w) (fun _ _ => 0)
  case atStart => exact ⟨rfl, rfl⟩
  case round =>
    obtain ⟨rfl, rfl⟩ := hrel
    go_wp2_with (go_at_call 154
                 refine HM.out.mono ?_
                 rintro e w3 ⟨r, rfl, ht, hb⟩
                 have HT := Lib.hid ht; have HB := Lib.hid hb
                 clear ht hb)
    go_ret
    first | exact ⟨r, rfl, HT.out, HB.out⟩ | exact ⟨r, ⟨rfl, HT.out, HB.out⟩⟩
set_option maxRecDepth 100000 in
set_option maxHeartbeats 8000000 in
theorem rpBuildOnce_any (v8 v10 v11 : ByteArray) (w : World) (p c : Nat) (A : Option Addr) (hx : w.heap[p]? = some (.cells #[.int .u32 0, .int .i32 1, .int .u32 0, .nilIface, .slice A 6 c] 102 (0, 0))) (hr : Rd w A 6 (usV v8 v10 v11)) :
    Calls Tryz.prog 71 #[ptr p] w fun e w' => e = .returned (.tuple #[]) ∧ ∃ r, w'.heap[p]? = some (.cells #[.int .u32 0, .int .i32 1, .int .u32 0, .iface 192 (ptr r), .slice none 0 0] 102 (0, 0)) ∧ TrS w.heap.size v8 v10 v11 w' r 3 ∧ Ch (· = p) w w' := by
  have HBD := Lib.hid (rpBuild_any v8 v10 v11 w p c A (blk_cell hx 4 rfl) hr)
  have HX := Lib.hid hx
  have HLT : Hid (p < w.heap.size) := Lib.hid (blk_lt hx)
  clear hx hr
  go_enter Tryz.func71, Tryz.ntmps71
  go_wp2_with (go_at_call 110
               refine HBD.out.mono ?_
               rintro e w2 ⟨r, rfl, ht, hb⟩
               have hx2 := blk_bel HX.out hb
               have x3 : w2.cell? ⟨p, 3, none⟩ = some .nilIface := blk_cell hx2 3 rfl
               have x4 : w2.cell? ⟨p, 4, none⟩ = some (.slice A 6 c) := blk_cell hx2 4 rfl
               have z3 := blk_free hx2 3
               have z4 := blk_free hx2 4
               have HX2 := Lib.hid hx2; have HT := Lib.hid ht; have HB := Lib.hid hb
               clear ht hb hx2)
  refine bodyPost_end (results_none rfl _ _ _) rfl ?_
  have hc : Ch (· = p) w2 ((w2.setCell ⟨p, 3, none⟩ (.iface 192 (ptr r))).setCell ⟨p, 4, none⟩ (.slice none 0 0)) := (ch_set _ _ _ _).trans (ch_set _ _ _ _)
  exact ⟨rfl, r, blk_set (blk_set HX2.out 3 _) 4 _, trS_ch HT.out hc HLT.out, (ch_below HB.out).trans hc⟩
set_option maxRecDepth 100000 in
set_option maxHeartbeats 8000000 in
theorem rpReplaceB_any (v8 v10 v11 : ByteArray) (w : World) (p : Nat) (s t : ByteArray) (h : RpB v8 v10 v11 w p) (hrp : Rp (nm v8) (nm v10) (nm v11) (nm s) (nm t)) (hs : s.size ≤ 100000) (ht : t.size ≤ 500000) :
    Calls Tryz.prog 37 #[ptr p, .string s] w fun e w' => e = .returned (.string t) ∧ RpB v8 v10 v11 w' p ∧ Ch (· = p) w w' := by
  obtain ⟨B, r, hpB, hx, hT⟩ := h
  have x0 : w.cell? ⟨p, 0, none⟩ = some (.int .u32 1) := blk_cell hx 0 rfl
  have x3 : w.cell? ⟨p, 3, none⟩ = some (.iface 192 (ptr r)) := blk_cell hx 3 rfl
  have HGR := Lib.hid (genReplace_any B v8 v10 v11 w r s t hT hrp hs ht)
  have HX := Lib.hid hx; have HT := Lib.hid hT; have HPB := Lib.hid hpB
  have HDO := fun fv => Lib.hid (onceDo_done ⟨p, 0, none⟩ 1 (by decide) fv w x0)
  have hmf : ∀ (fn : Fn) (first cap : Array Value) (w : World), (Instr.makeFunc fn first cap).run Tryz.prog w = .ok (.func fn first cap) w := fun _ _ _ _ => rfl
  clear hx hT hpB hrp hs ht x0
  go_enter Tryz.func37, Tryz.ntmps37
  go_wp2_with (first
    | (go_at_call 70; refine (HDO _).out.mono ?_; rintro e w3 ⟨rfl, rfl⟩)
    | (go_at_call 281
       refine HGR.out.mono ?_
       rintro e w4 ⟨rfl, hb⟩
       have HB := Lib.hid hb
       clear hb))
  go_ret
  exact ⟨rfl, ⟨B, r, HPB.out, blk_bel HX.out HB.out, trS_below HT.out HB.out⟩, ch_below HB.out⟩
set_option maxRecDepth 100000 in
set_option maxHeartbeats 8000000 in
theorem rpReplaceF_any (v8 v10 v11 : ByteArray) (w : World) (p : Nat) (s t : ByteArray) (h : RpF v8 v10 v11 w p) (hrp : Rp (nm v8) (nm v10) (nm v11) (nm s) (nm t)) (hs : s.size ≤ 100000) (ht : t.size ≤ 500000) :
    Calls Tryz.prog 37 #[ptr p, .string s] w fun e w' => e = .returned (.string t) ∧ RpB v8 v10 v11 w' p ∧ Ch (· = p) w w' := by
  obtain ⟨A, c, hx, hr, hA⟩ := h
  have hlt := blk_lt hx
  have hc1 : Ch (· = p) w (w.setCell ⟨p, 1, none⟩ (.int .i32 1)) := ch_set _ _ _ _
  have HDO := Lib.hid (onceDo_first p (fun w' => ∃ r, w'.heap[p]? = some (.cells #[.int .u32 0, .int .i32 1, .int .u32 0, .iface 192 (ptr r), .slice none 0 0] 102 (0, 0)) ∧ TrS (w.setCell ⟨p, 1, none⟩ (.int .i32 1)).heap.size v8 v10 v11 w' r 3 ∧ Ch (· = p) w w') w (blk_cell hx 0 rfl) (blk_cell hx 1 rfl) (blk_free hx 0) (blk_free hx 1) (Lib.hid ((rpBuildOnce_any v8 v10 v11 (w.setCell ⟨p, 1, none⟩ (.int .i32 1)) p c A (blk_set hx 1 _) (rd_ch hr hc1 hA)).mono (by
    rintro e w' ⟨rfl, r, h1, h2, h3⟩
    exact ⟨rfl, blk_cell h1 0 rfl, blk_free h1 0, blk_cell h1 1 rfl, blk_free h1 1, r, h1, h2, hc1.trans h3⟩))))
  have HLT : Hid (p < (w.setCell ⟨p, 1, none⟩ (.int .i32 1)).heap.size) := Lib.hid (by simpa using hlt)
  have HRP := Lib.hid hrp; have HSS := Lib.hid hs; have HTT := Lib.hid ht
  have hmf : ∀ (fn : Fn) (first cap : Array Value) (w : World), (Instr.makeFunc fn first cap).run Tryz.prog w = .ok (.func fn first cap) w := fun _ _ _ _ => rfl
  clear hx hr hA hlt hc1 hrp hs ht
  go_enter Tryz.func37, Tryz.ntmps37
  go_upto_region 2 with (go_at_call 70
                         refine HDO.out.mono ?_
                         rintro e w3 ⟨rfl, w2, ⟨r, h1, h2, h3⟩, hw3⟩
                         have hc3 : Ch (· = p) w2 w3 := by rw [hw3]; exact ((ch_drew (Ch.refl _ _)).trans (ch_set _ _ _ _)).trans (ch_set _ _ _ _)
                         have HB3 : Hid (RpB v8 v10 v11 w3 p) := Lib.hid ⟨_, r, HLT.out, by rw [hw3]; exact blk_set (blk_set (w := w2.drew) h1 0 (.int .u32 1)) 1 (.int .i32 0), trS_ch h2 hc3 HLT.out⟩
                         have HC3 : Hid (Ch (· = p) w w3) := Lib.hid (h3.trans hc3)
                         clear h1 h2 h3 hw3 hc3)
  obtain ⟨B, r', hpB, hx, hT⟩ := HB3.out
  have x3 : w3.cell? ⟨p, 3, none⟩ = some (.iface 192 (ptr r')) := blk_cell hx 3 rfl
  have HGR := Lib.hid (genReplace_any B v8 v10 v11 w3 r' s t hT HRP.out HSS.out HTT.out)
  have HX := Lib.hid hx; have HT := Lib.hid hT; have HPB := Lib.hid hpB
  clear hx hT hpB HDO
  go_wp2_with (go_at_call 281
               refine HGR.out.mono ?_
               rintro e w4 ⟨rfl, hb⟩
               have HB := Lib.hid hb
               clear hb)
  go_ret
  exact ⟨rfl, ⟨B, r', HPB.out, blk_bel HX.out HB.out, trS_below HT.out HB.out⟩, HC3.out.trans (ch_below HB.out)⟩
theorem rpReplace_any (v8 v10 v11 : ByteArray) (w : World) (p : Nat) (s t : ByteArray) (h : RpF v8 v10 v11 w p ∨ RpB v8 v10 v11 w p) (hrp : Rp (nm v8) (nm v10) (nm v11) (nm s) (nm t)) (hs : s.size ≤ 100000) (ht : t.size ≤ 500000) :
    Calls Tryz.prog 37 #[ptr p, .string s] w fun e w' => e = .returned (.string t) ∧ RpB v8 v10 v11 w' p ∧ Ch (· = p) w w' := by
  rcases h with h | h
  · exact rpReplaceF_any v8 v10 v11 w p s t h hrp hs ht
  · exact rpReplaceB_any v8 v10 v11 w p s t h hrp hs ht
end Go.Proofs.YtadmbphefpfbmaaGreatDoor
