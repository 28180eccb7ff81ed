/- Texts in one file: PrfO. -/
import Derived.Test.YtcpkhhammafchaaGG
/- Proofs by contexts: the parts of one (program). -/
namespace Go.Proofs.Ytcpkhhammafchaa
open Go.RowKit
set_option linter.unusedVariables false
set_option linter.unusedSimpArgs false
theorem cell_al {w : World} {g i : Nat} {v : Value} {o : Obj} (h : w.cell? ⟨g, i, none⟩ = some v) (hg : g < w.heap.size) : (w.alloc o).cell? ⟨g, i, none⟩ = some v := ((below_new w o).cell (p := ⟨g, i, none⟩) hg).trans h
theorem cell_dr {w : World} {p : Addr} {v : Value} (h : w.cell? p = some v) : w.drew.cell? p = some v := h
theorem RdL.drew {w : World} {A : Option Addr} {n : Nat} {xss : List (List Int)} (h : RdL w A n xss) : RdL w.drew A n xss := h
theorem lists_len {m g : Int} {xss : List (List Int)} (h : xss.all (lenB m g) = true) (hm : m ≤ 9) : ∀ xs ∈ xss, xs.length ≤ 100000 := fun xs hx => by
  have h1 := List.all_eq_true.1 h xs hx
  simp only [lenB, Bool.and_eq_true, decide_eq_true_eq] at h1
  omega
/-- What is known behind the copies. -/
def CutP (z : Int) (ls rs : List (List Int)) (w2 : World) (s8 : Value) (wx : World) : Prop :=
  ∃ (g : Nat) (A8 : Option Addr) (n8 c8 : Nat) (F8 : Nat → Prop) (A9 : Option Addr) (n9 c9 : Nat) (F9 : Nat → Prop), s8 = .pointer (some ⟨g, 0, none⟩) ∧ wx.heap[g]? = some (.cells #[.int .i64 z, .slice A8 n8 c8, .slice A9 n9 c9, .slice none 0 0] 125 (0, 0)) ∧ w2.heap.size ≤ g ∧ OwnP wx F8 A8 n8 c8 ls ∧ OwnP wx F9 A9 n9 c9 rs ∧ (∀ k, F8 k → w2.heap.size ≤ k) ∧ (∀ k, F9 k → w2.heap.size ≤ k) ∧ (¬ F8 g) ∧ (¬ F9 g) ∧ (∀ k, F8 k → F9 k → False) ∧ Below w2.heap.size w2 wx
section
variable {z : Int} {ls rs : List (List Int)} {w2 w5 w6 : World} {A8 A9 : Option Addr} {n8 c8 n9 c9 : Nat} {F8 F9 : Nat → Prop}
theorem cut_set {g : Nat} (hx : w6.heap[g]? = some (.cells csZ 125 (0, 0))) (ho8 : OwnP w6 F8 A8 n8 c8 ls) (ho9 : OwnP w6 F9 A9 n9 c9 rs) (hg : w2.heap.size ≤ g) (n8' : ¬ F8 g) (n9' : ¬ F9 g) (hf8 : ∀ k, F8 k → w2.heap.size ≤ k) (hf9 : ∀ k, F9 k → w2.heap.size ≤ k) (hd : ∀ k, F8 k → F9 k → False) (hc : Below w2.heap.size w2 w6) :
    CutP z ls rs w2 (.pointer (some ⟨g, 0, none⟩)) ((((w6.setCell ⟨g, 0, none⟩ (.int .i64 z)).setCell ⟨g, 1, none⟩ (.slice A8 n8 c8)).setCell ⟨g, 2, none⟩ (.slice A9 n9 c9)).setCell ⟨g, 3, none⟩ (.slice none 0 0)) := by
  have hs : Ch (· = g) w6 ((((w6.setCell ⟨g, 0, none⟩ (.int .i64 z)).setCell ⟨g, 1, none⟩ (.slice A8 n8 c8)).setCell ⟨g, 2, none⟩ (.slice A9 n9 c9)).setCell ⟨g, 3, none⟩ (.slice none 0 0)) := (((ch_set _ _ 0 _).trans (ch_set _ _ 1 _)).trans (ch_set _ _ 2 _)).trans (ch_set _ _ 3 _)
  refine ⟨g, A8, n8, c8, F8, A9, n9, c9, F9, rfl, ?_, hg, ho8.ch hs (fun k h1 h2 => n8' (by rw [← h2]; exact h1)), ho9.ch hs (fun k h1 h2 => n9' (by rw [← h2]; exact h1)), hf8, hf9, n8', n9', hd, below_ch hc hs (fun k hk => by have h : k = g := hk; omega) hc.size⟩
  have h := blk_set (blk_set (blk_set (blk_set hx 0 (.int .i64 z)) 1 (.slice A8 n8 c8)) 2 (.slice A9 n9 c9)) 3 (.slice none 0 0)
  simpa using h
theorem cut_e1 (ho8 : OwnP w6 F8 A8 n8 c8 ls) (ho9 : OwnP w6 F9 A9 n9 c9 rs) (hf8 : ∀ k, F8 k → w2.drew.heap.size ≤ k ∧ k < w5.heap.size) (hf9 : ∀ k, F9 k → w5.heap.size ≤ k ∧ k < w6.heap.size) (hc : Below w2.heap.size w2 w6) (h5 : w2.heap.size ≤ w5.heap.size) :
    CutP z ls rs w2 (.pointer (some ⟨w6.heap.size, 0, none⟩)) (w6.alloc (.cells #[.int .i64 z, .slice A8 n8 c8, .slice A9 n9 c9, .slice none 0 0] 125)) := by
  have hf8' : ∀ k, F8 k → w2.heap.size ≤ k ∧ k < w5.heap.size := hf8
  exact ⟨_, A8, n8, c8, F8, A9, n9, c9, F9, rfl, box_new _ _ _, hc.size, ho8.ch (ch_alloc (fun _ => False) _ _) (fun _ _ h => h), ho9.ch (ch_alloc (fun _ => False) _ _) (fun _ _ h => h), fun k hk => (hf8' k hk).1, fun k hk => by have := (hf9 k hk).1; omega, fun hk => by have := ho8.lt _ hk; omega, fun hk => by have := ho9.lt _ hk; omega, fun k h1 h2 => by have := (hf8' k h1).2; have := (hf9 k h2).1; omega, hc.alloc hc.size _⟩
theorem cut_e2 {o : Obj} (hx : w6.heap[w5.heap.size]? = some (.cells csZ 125 (0, 0))) (ho8 : OwnP w6 F8 A8 n8 c8 ls) (ho9 : OwnP w6 F9 A9 n9 c9 rs) (hf8 : ∀ k, F8 k → w2.drew.heap.size ≤ k ∧ k < w5.heap.size) (hf9 : ∀ k, F9 k → (w5.alloc o).heap.size ≤ k ∧ k < w6.heap.size) (hc : Below w2.heap.size w2 w6) (h5 : w2.heap.size ≤ w5.heap.size) :
    CutP z ls rs w2 (.pointer (some ⟨w5.heap.size, 0, none⟩)) ((((w6.setCell ⟨w5.heap.size, 0, none⟩ (.int .i64 z)).setCell ⟨w5.heap.size, 1, none⟩ (.slice A8 n8 c8)).setCell ⟨w5.heap.size, 2, none⟩ (.slice A9 n9 c9)).setCell ⟨w5.heap.size, 3, none⟩ (.slice none 0 0)) := by
  have hf8' : ∀ k, F8 k → w2.heap.size ≤ k ∧ k < w5.heap.size := hf8
  have hf9' : ∀ k, F9 k → w5.heap.size < k := fun k hk => by have := (hf9 k hk).1; simp at this; omega
  exact cut_set hx ho8 ho9 h5 (fun hk => by have := (hf8' _ hk).2; omega) (fun hk => by have := hf9' _ hk; omega) (fun k hk => (hf8' k hk).1) (fun k hk => by have := hf9' k hk; omega) (fun k h1 h2 => by have := (hf8' k h1).2; have := hf9' k h2; omega) hc
theorem cut_e3 {o : Obj} (hx : w6.heap[w2.heap.size]? = some (.cells csZ 125 (0, 0))) (ho8 : OwnP w6 F8 A8 n8 c8 ls) (ho9 : OwnP w6 F9 A9 n9 c9 rs) (hf8 : ∀ k, F8 k → (w2.alloc o).drew.heap.size ≤ k ∧ k < w5.heap.size) (hf9 : ∀ k, F9 k → w5.heap.size ≤ k ∧ k < w6.heap.size) (hc : Below w2.heap.size w2 w6) (h5' : w2.heap.size < w5.heap.size) :
    CutP z ls rs w2 (.pointer (some ⟨w2.heap.size, 0, none⟩)) ((((w6.setCell ⟨w2.heap.size, 0, none⟩ (.int .i64 z)).setCell ⟨w2.heap.size, 1, none⟩ (.slice A8 n8 c8)).setCell ⟨w2.heap.size, 2, none⟩ (.slice A9 n9 c9)).setCell ⟨w2.heap.size, 3, none⟩ (.slice none 0 0)) := by
  have hf8' : ∀ k, F8 k → w2.heap.size < k ∧ k < w5.heap.size := fun k hk => by have h : (w2.alloc o).heap.size ≤ k ∧ k < w5.heap.size := hf8 k hk; simp at h; omega
  have hs : w2.heap.size < w6.heap.size := blk_lt hx
  exact cut_set hx ho8 ho9 (Nat.le_refl _) (fun hk => by have := (hf8' _ hk).1; omega) (fun hk => by have := (hf9 _ hk).1; omega) (fun k hk => by have := (hf8' k hk).1; omega) (fun k hk => by have := (hf9 k hk).1; omega) (fun k h1 h2 => by have := (hf8' k h1).2; have := (hf9 k h2).1; omega) hc
end
set_option maxHeartbeats 16000000 in
set_option maxRecDepth 100000 in
theorem setsIn_go (w : World) (k : Int) (A1 : Option Addr) (n1 c1 : Nat) (ns : List Int) (hr1 : Rd w A1 n1 (ints ns)) (hc1 : n1 ≤ c1) (A2 : Option Addr) (n2 c2 : Nat) (ws : List (List Int)) (hr2 : RdL w A2 n2 ws) (hc2 : n2 ≤ c2) (hok : okP k ns ws = true) (hg1 : g1 k ns = true) (hg2 : g2 ns n2 = true) :
    Calls Try.prog 81 #[prfV k A1 n1 c1 A2 n2 c2] w (CsPost w (pN ns) (lefts ns ws) (rights ns ws) (stated (ns.drop 3) (ctxs ns ws)) (g3 ns ws && g4 ns ws)) := by
  obtain ⟨rfl, h3, hz1, hz4⟩ := g1_bd hg1
  obtain ⟨_, hn1, hn2, hbd, _⟩ := okP_bd hok
  have hi : inB (pN ns) 1 4 = true := by simp only [g1, Bool.and_eq_true] at hg1; exact hg1.2
  have hl : ns.length = n1 := by simpa using hr1.1
  have hl2 : ws.length = n2 := hr2.len
  rw [hl] at h3 hn1
  rw [hl2] at hn2
  obtain ⟨na, nb, hna, hnb, hab, habn⟩ := g2_bd hg2
  rw [hl] at habn
  have hsts : allIn (ns.drop 3) 0 1000000000000 = true := by simp only [g2, Bool.and_eq_true] at hg2; exact hg2.2
  obtain ⟨w0, hw0⟩ : ∃ w0, w0 = (w.alloc (.cells #[.int .i64 8, .slice A1 n1 c1, .slice A2 n2 c2] 48)).alloc (.cells csZ 125) := ⟨_, rfl⟩
  have hB : Below w.heap.size w w0 := by rw [hw0]; exact (below_new w _).trans ((below_new _ _).mono (by simp))
  have hx0 : w0.heap[w.heap.size]? = some (.cells #[.int .i64 8, .slice A1 n1 c1, .slice A2 n2 c2] 48 (0, 0)) := by rw [hw0]; exact blk_alloc (box_new w _ _) _
  have hx1 : w0.heap[w.heap.size + 1]? = some (.cells csZ 125 (0, 0)) := by rw [hw0]; have h := box_new (w.alloc (.cells #[.int .i64 8, .slice A1 n1 c1, .slice A2 n2 c2] 48)) csZ 125; simpa using h
  have q0 := blk_cell hx0 0 rfl
  have q1 := blk_cell hx0 1 rfl
  have q2 := blk_cell hx0 2 rfl
  have HB := Lib.hid hB
  have hR1 := hr1.below hB (Nat.le_refl _)
  have HR2 := Lib.hid (hr2.below hB (Nat.le_refl _))
  have HX0 := Lib.hid hx0; have HX1 := Lib.hid hx1
  clear hB hx0 hx1 hr2
  have HI := Lib.hid hi
  obtain ⟨b, off, hA, hbs, r0⟩ := hR1.at_ (ints_get (num_at (ns := ns) (i := 0) (by omega)))
  obtain ⟨b', off', hA', _, r1⟩ := hR1.at_ (ints_get (num_at (ns := ns) (i := 1) (by omega)))
  obtain ⟨b'', off'', hA'', _, r2⟩ := hR1.at_ (ints_get (num_at (ns := ns) (i := 2) (by omega)))
  subst hA
  injection hA' with hA'
  injection hA' with e1 e2
  subst e1 e2
  injection hA'' with hA''
  injection hA'' with e1 e2
  subst e1 e2
  have ep : ns.getD 0 0 = pN ns := rfl
  have ea : ns.getD 1 0 = pA ns := rfl
  have eb : ns.getD 2 0 = pB ns := rfl
  rw [ep] at r0
  rw [ea, hna] at r1
  rw [eb, hnb] at r2
  simp only [Nat.add_zero] at r0
  have hct := fun (w : World) => run_cutF Try.underlying25 Try.szI w (some ⟨b, off, none⟩) n1 c1 3 3 .i64 rfl (by omega)
  have HR3 : Hid (Rd w0 (cutA (some ⟨b, off, none⟩) 3 c1 1) (n1 - 3) (ints (ns.drop 3))) := Lib.hid (by have h := hR1.cut 3 c1 (by omega) hc1; rwa [← List.map_drop] at h)
  have HC3 : Hid (n1 - 3 ≤ c1 - 3) := Lib.hid (by omega)
  have HG : Hid ((g3 ns ws && g4 ns ws) = ((ws.take na).all (lenB (pN ns) 9) && ((ws.drop na).take nb).all (lenB (pN ns) 9) && (ws.drop (na + nb)).all (lenB (2 * pN ns + 1) 9) && (rises (ws.take na) && rises ((ws.drop na).take nb) && rises (stated (ns.drop 3) (ws.drop (na + nb)))))) := Lib.hid (by
    simp only [g3, g4, lefts, rights, ctxs, hna, hnb, Int.toNat_natCast])
  have HP : Hid (lefts ns ws = ws.take na ∧ rights ns ws = (ws.drop na).take nb ∧ ctxs ns ws = ws.drop (na + nb)) := Lib.hid (by
    simp only [lefts, rights, ctxs, hna, hnb, Int.toNat_natCast]; exact ⟨trivial, trivial, trivial⟩)
  rw [HG.out, HP.out.1, HP.out.2.1, HP.out.2.2]
  have hn3 : n2 - (na + nb) = n1 - 3 := by omega
  have hn1' : (n1 - 3 : Nat) ≤ 300 := by omega
  generalize cutA (some ⟨b, off, none⟩) 3 c1 1 = A3 at *
  generalize n1 - 3 = n3 at *
  generalize c1 - 3 = c3 at *
  generalize pN ns = z at *
  generalize ns.drop 3 = sts at *
  have hw1 : IntKind.i64.wrap ((na : Int) + (nb : Int)) = (na : Int) + (nb : Int) := IntWalk.i64_in _ (by omega)
  have hw2 : IntKind.i64.wrap ((na : Int) + (nb : Int) + (n3 : Int)) = (na : Int) + (nb : Int) + (n3 : Int) := IntWalk.i64_in _ (by omega)
  have hu3 : ((na : Int) + (nb : Int) + (n3 : Int) != (n2 : Int)) = false := by rw [bne_eq_false_iff_eq]; omega
  have i0 : (0 : Int) < (n1 : Int) := by omega
  have i1 : (1 : Int) < (n1 : Int) := by omega
  have i2 : (2 : Int) < (n1 : Int) := by omega
  have j1 : 1 < n1 := by omega
  have j2 : 2 < n1 := by omega
  have i3 : ¬ (n1 : Int) < 3 := by omega
  have HL2 := Lib.hid hl2
  have HN3 := Lib.hid hn3
  have hu1 : inB (na : Int) 0 (n2 : Int) = true := inB_true.2 (by omega)
  have hu2 : inB (nb : Int) 0 (n2 : Int) = true := inB_true.2 (by omega)
  have HU1 := Lib.hid hu1; have HU2 := Lib.hid hu2; have HU4 := Lib.hid hsts
  clear hr1 hR1 hl hl2 hok hg1 hg2 hbd hi ep ea eb h3 hna hnb HG HP hn3 habn hu1 hu2 hsts
  go_enter Try.func81, Try.ntmps81
  go_upto_region 1 with fail
  rw [← hw0]
  clear hw0
  go_wp2_with fail
  refine (contextSizeOk_any _ _).mono ?_
  rw [HI.out]
  rintro e w3 ⟨rfl, rfl⟩
  go_wp2_with fail
  go_region
  as_aux_lemma =>
  obtain ⟨w1, hw1'⟩ : ∃ w1, w1 = w0.drew := ⟨_, rfl⟩
  have hx0 : w1.heap[w.heap.size]? = some (.cells #[.int .i64 8, .slice (some ⟨b, off, none⟩) n1 c1, .slice A2 n2 c2] 48 (0, 0)) := by rw [hw1']; exact HX0.out
  have HX0' := Lib.hid hx0
  have HX1' : Hid (w1.heap[w.heap.size + 1]? = some (.cells csZ 125 (0, 0))) := Lib.hid (by rw [hw1']; exact HX1.out)
  have HR3' : Hid (Rd w1 A3 n3 (ints sts)) := Lib.hid (by rw [hw1']; exact HR3.out)
  have HR2' : Hid (RdL w1 A2 n2 ws) := Lib.hid (by rw [hw1']; exact HR2.out.drew)
  have HB' : Hid (Below w.heap.size w w1) := Lib.hid (by rw [hw1']; exact below_drew1 HB.out)
  rw [← hw1']
  clear hw1' q0 q1 q2 HX0 HX1 HR3 HB HR2 r0 r1 r2 hct
  have q2 := blk_cell hx0 2 rfl
  clear hx0
  have hs1 : ∀ n, Calls Try.prog 125 #[.slice A2 n2 c2] (w1.drewN n) (fun e w' => e = .returned (.int .i64 n2) ∧ w' = w1.drewN n) := fun n => (sizeL_any _ _ _ _).mono fun e w' h => ⟨h.1, h.2.symm⟩
  have hs2 : ∀ n, Calls Try.prog 126 #[.slice A3 n3 c3] (w1.drewN n) (fun e w' => e = .returned (.int .i64 n3) ∧ w' = w1.drewN n) := fun n => (sizeI_any _ _ _ _).mono fun e w' h => ⟨h.1, h.2.symm⟩
  have hwa : ∀ n, Calls Try.prog 96 #[.int .i64 na, .int .i64 0, .int .i64 n2] (w1.drewN n) (fun e w' => e = .returned (.bool true) ∧ w' = w1.drewN n) := fun n => (within_any _ _ _ _).mono fun e w' h => ⟨by rw [← HU1.out]; exact h.1, h.2.symm⟩
  have hwb : ∀ n, Calls Try.prog 96 #[.int .i64 nb, .int .i64 0, .int .i64 n2] (w1.drewN n) (fun e w' => e = .returned (.bool true) ∧ w' = w1.drewN n) := fun n => (within_any _ _ _ _).mono fun e w' h => ⟨by rw [← HU2.out]; exact h.1, h.2.symm⟩
  have hal : ∀ n, Calls Try.prog 39 #[.slice A3 n3 c3, .int .i64 0, .int .i64 1000000000000] (w1.drewN n) (fun e w' => e = .returned (.bool true) ∧ w' = w1.drewN n) := fun n => (allWithin_any _ _ _ _ sts (by have h := HR3'.out; exact h) (by omega) _ _).mono fun e w' h => ⟨by rw [← HU4.out]; exact h.1, h.2.symm⟩
  have HS1 := Lib.hid (fun n => Calls.quiet_of_same (hs1 n))
  have HS2 := Lib.hid (fun n => Calls.quiet_of_same (hs2 n))
  have HWA := Lib.hid (fun n => Calls.quiet_of_same (hwa n))
  have HWB := Lib.hid (fun n => Calls.quiet_of_same (hwb n))
  have HAL := Lib.hid (fun n => Calls.quiet_of_same (hal n))
  clear hs1 hs2 hwa hwb hal
  go_wp2_with fail
  go_quiet (first
    | (go_at_call 125; with_reducible exact HS1.out _)
    | (go_at_call 126; with_reducible exact HS2.out _)
    | (go_at_call 96; with_reducible exact HWA.out _)
    | (go_at_call 96; with_reducible exact HWB.out _)
    | (go_at_call 39; with_reducible exact HAL.out _))
  as_aux_lemma =>
  obtain ⟨w2, hw2'⟩ : ∃ w2, w2 = w1.drewN nq := ⟨_, rfl⟩
  have hx0 : w2.heap[w.heap.size]? = some (.cells #[.int .i64 8, .slice (some ⟨b, off, none⟩) n1 c1, .slice A2 n2 c2] 48 (0, 0)) := by rw [hw2']; exact HX0'.out
  have HX0 := Lib.hid hx0
  have HX1 : Hid (w2.heap[w.heap.size + 1]? = some (.cells csZ 125 (0, 0))) := Lib.hid (by rw [hw2']; exact HX1'.out)
  have HR3 : Hid (Rd w2 A3 n3 (ints sts)) := Lib.hid (by rw [hw2']; exact HR3'.out)
  have HR2 : Hid (RdL w2 A2 n2 ws) := Lib.hid (by rw [hw2']; exact HR2'.out)
  have HB : Hid (Below w.heap.size w w2) := Lib.hid (by rw [hw2']; exact below_drewN HB'.out)
  rw [← hw2']
  clear hw2' q2 HX0' HX1' HR3' HR2' HB' HS1 HS2 HWA HWB HAL HU1 HU2 HU4 hu3 hw2
  have q2 := blk_cell hx0 2 rfl
  clear hx0
  have hca := fun (w : World) => run_cutH Try.underlying46 Try.szL w A2 n2 c2 na (na : Int) .i64 rfl (by omega)
  have hcb := fun (w : World) => run_cutFH Try.underlying46 Try.szL w A2 n2 c2 na (na + nb) (na : Int) ((na : Int) + (nb : Int)) .i64 .i64 rfl (by push_cast; rfl) (by omega) (by omega)
  have hcc := fun (w : World) => run_cutF Try.underlying46 Try.szL w A2 n2 c2 (na + nb) ((na : Int) + (nb : Int)) .i64 (by push_cast; rfl) (by omega)
  have e1 : na + nb - na = nb := by omega
  rw [e1] at hcb
  have hnn : n2 - (na + nb) = n3 := HN3.out
  rw [hnn] at hcc
  have HL5 : Hid (RdL w2 A2 na (ws.take na)) := Lib.hid (HR2.out.take na (by omega))
  have HL6 : Hid (RdL w2 (cutA A2 na c2 1) nb ((ws.drop na).take nb)) := Lib.hid ((HR2.out.cut na c2 (by omega) hc2).take nb (by omega))
  have HL7 : Hid (RdL w2 (cutA A2 (na + nb) c2 1) n3 (ws.drop (na + nb))) := Lib.hid (by rw [← hnn]; exact HR2.out.cut (na + nb) c2 hab hc2)
  clear e1 hnn
  generalize cutA A2 na c2 1 = A6 at *
  generalize cutA A2 (na + nb) c2 1 = A7 at *
  generalize c2 - na = c6 at *
  generalize c2 - (na + nb) = c7 at *
  have hna9 : na ≤ 300 := by omega
  have hnb9 : nb ≤ 300 := by omega
  have HLLS : Hid ((ws.take na).length ≤ 300) := Lib.hid (by simp; omega)
  have HLRS : Hid (((ws.drop na).take nb).length ≤ 300) := Lib.hid (by simp; omega)
  have HLST : Hid ((stated sts (ws.drop (na + nb))).length ≤ 300) := Lib.hid (by have h := HL2.out; simp [stated, List.length_zipWith]; omega)
  generalize ws.take na = ls at *
  generalize (ws.drop na).take nb = rs at *
  generalize ws.drop (na + nb) = cs at *
  generalize hokb : (ls.all (lenB z 9) && rs.all (lenB z 9) && cs.all (lenB (2 * z + 1) 9) && (rises ls && rises rs && rises (stated sts cs))) = okb at *
  generalize hss : stated sts cs = ss at *
  have HOKB := Lib.hid hokb; have HSS := Lib.hid hss
  clear hokb hss
  clear i0 i1 i2 j1 j2 i3 hbs HL2 HN3 hn1 hn2
  have HXP := HX0
  have HWS : Hid (w.heap.size + 1 < w2.heap.size) := Lib.hid (blk_lt HX1.out)
  clear q2
  have q2 := blk_cell HXP.out 2 (v := .slice A2 n2 c2) rfl
  have q2a := blk_cell (blk_alloc HXP.out (.cells #[.int .i64 0, .slice none 0 0, .slice none 0 0, .slice none 0 0] 125)) 2 (v := .slice A2 n2 c2) rfl
  go_upto_region 6 with fail
  as_aux_lemma =>
  go_cut [8] from 75 to 89 (CutP z ls rs w2)
  case first =>
    as_aux_lemma =>
    have HC := Lib.hid (Below.refl w2.heap.size w2)
    go_region_held3 (fun w' => w'.cell? ⟨w.heap.size, 2, none⟩ = some (.slice A2 n2 c2)) (first | with_reducible exact q2 | with_reducible exact cell_al q2 (by have h0 := HWS.out; first | omega | (have h5 := HS5.out; omega) | (have h6 := HS6.out; omega) | (have h5 := HS5.out; have h6 := HS6.out; omega)) | with_reducible exact cell_dr q2 | with_reducible exact cell_dr (cell_al q2 (by have h0 := HWS.out; first | omega | (have h5 := HS5.out; omega) | (have h6 := HS6.out; omega) | (have h5 := HS5.out; have h6 := HS6.out; omega))) | with_reducible exact cell_al (cell_dr q2) (by have h0 := HWS.out; first | omega | (have h5 := HS5.out; omega) | (have h6 := HS6.out; omega) | (have h5 := HS5.out; have h6 := HS6.out; omega)) | with_reducible exact cell_far (cell_far (cell_far (cell_far q2 (by have h0 := HWS.out; first | omega | (have h5 := HS5.out; omega) | (have h6 := HS6.out; omega) | (have h5 := HS5.out; have h6 := HS6.out; omega))) (by have h0 := HWS.out; first | omega | (have h5 := HS5.out; omega) | (have h6 := HS6.out; omega) | (have h5 := HS5.out; have h6 := HS6.out; omega))) (by have h0 := HWS.out; first | omega | (have h5 := HS5.out; omega) | (have h6 := HS6.out; omega) | (have h5 := HS5.out; have h6 := HS6.out; omega))) (by have h0 := HWS.out; first | omega | (have h5 := HS5.out; omega) | (have h6 := HS6.out; omega) | (have h5 := HS5.out; have h6 := HS6.out; omega)) | with_reducible exact cell_far (cell_far (cell_far (cell_far (cell_dr q2) (by have h0 := HWS.out; first | omega | (have h5 := HS5.out; omega) | (have h6 := HS6.out; omega) | (have h5 := HS5.out; have h6 := HS6.out; omega))) (by have h0 := HWS.out; first | omega | (have h5 := HS5.out; omega) | (have h6 := HS6.out; omega) | (have h5 := HS5.out; have h6 := HS6.out; omega))) (by have h0 := HWS.out; first | omega | (have h5 := HS5.out; omega) | (have h6 := HS6.out; omega) | (have h5 := HS5.out; have h6 := HS6.out; omega))) (by have h0 := HWS.out; first | omega | (have h5 := HS5.out; omega) | (have h6 := HS6.out; omega) | (have h5 := HS5.out; have h6 := HS6.out; omega)) | with_reducible exact cell_dr (cell_far (cell_far (cell_far (cell_far q2 (by have h0 := HWS.out; first | omega | (have h5 := HS5.out; omega) | (have h6 := HS6.out; omega) | (have h5 := HS5.out; have h6 := HS6.out; omega))) (by have h0 := HWS.out; first | omega | (have h5 := HS5.out; omega) | (have h6 := HS6.out; omega) | (have h5 := HS5.out; have h6 := HS6.out; omega))) (by have h0 := HWS.out; first | omega | (have h5 := HS5.out; omega) | (have h6 := HS6.out; omega) | (have h5 := HS5.out; have h6 := HS6.out; omega))) (by have h0 := HWS.out; first | omega | (have h5 := HS5.out; omega) | (have h6 := HS6.out; omega) | (have h5 := HS5.out; have h6 := HS6.out; omega))) | go_keep) (first
        | (have hq := HO9.out
           clear hq
           go_at_call 127
           with_reducible refine (copyLists_any _ A2 na c2 ls (by have h := HL5.out.below HC.out (Nat.le_refl _); first | exact h.drew | exact h | exact h.below (below_new _ _) (Nat.le_refl _) | exact h.drew.below (below_new _ _) (Nat.le_refl _) | exact (h.below (below_new _ _) (Nat.le_refl _)).drew) (by omega)).mono ?_
           rintro e w5 ⟨A8, n8, c8, F8, rfl, ho8, hF8, hb5⟩
           (try clear z0 z1 z2 z3 f0 f1 f2 f3)
           (try replace hb5 := und1 hb5)
           (try (have hq := box_step hb5; clear hb5; obtain ⟨hb5, hxn, hsn⟩ := hq; have HXN := Lib.hid hxn; clear hxn hsn))
           (try replace hb5 := und1 hb5)
           (try (have hxn := blk_bel HXN.out hb5; clear HXN; have HXN := Lib.hid hxn; clear hxn))
           replace HO9 := Lib.hid (HO9.out.below hb5)
           replace HC := Lib.hid (HC.out.trans (hb5.mono HC.out.size))
           replace HXP := Lib.hid (blk_bel HXP.out hb5)
           have HS5 : Hid (w6.heap.size ≤ w5.heap.size) := Lib.hid hb5.size
           have HO8 := Lib.hid ho8; have HF8 := Lib.hid hF8
           clear ho8 hF8 hb5 q2 q2a
           have q2 := blk_cell HXP.out 2 (v := .slice A2 n2 c2) rfl
           have q2a := blk_cell (blk_alloc HXP.out (.cells #[.int .i64 0, .slice none 0 0, .slice none 0 0, .slice none 0 0] 125)) 2 (v := .slice A2 n2 c2) rfl
           (try (have hxn := HXN.out; have z0 := blk_cell hxn 0 (v := .int .i64 0) rfl; have z1 := blk_cell hxn 1 (v := .slice none 0 0) rfl; have z2 := blk_cell hxn 2 (v := .slice none 0 0) rfl; have z3 := blk_cell hxn 3 (v := .slice none 0 0) rfl; have f0 := blk_free hxn 0; have f1 := blk_free hxn 1; have f2 := blk_free hxn 2; have f3 := blk_free hxn 3; clear hxn)))
        | (have hq := HO8.out
           clear hq
           go_at_call 127
           with_reducible refine (copyLists_any _ A6 nb c6 rs (by have h := HL6.out.below HC.out (Nat.le_refl _); first | exact h.drew | exact h | exact h.below (below_new _ _) (Nat.le_refl _) | exact h.drew.below (below_new _ _) (Nat.le_refl _) | exact (h.below (below_new _ _) (Nat.le_refl _)).drew) (by omega)).mono ?_
           rintro e w6 ⟨A9, n9, c9, F9, rfl, ho9, hF9, hb6⟩
           (try clear z0 z1 z2 z3 f0 f1 f2 f3)
           (try replace hb6 := und1 hb6)
           (try (have hq := box_step hb6; clear hb6; obtain ⟨hb6, hxn, hsn⟩ := hq; have HXN := Lib.hid hxn; clear hxn hsn))
           (try replace hb6 := und1 hb6)
           (try (have hxn := blk_bel HXN.out hb6; clear HXN; have HXN := Lib.hid hxn; clear hxn))
           replace HO8 := Lib.hid (HO8.out.below hb6)
           replace HC := Lib.hid (HC.out.trans (hb6.mono HC.out.size))
           replace HXP := Lib.hid (blk_bel HXP.out hb6)
           have HS6 : Hid (w5.heap.size ≤ w6.heap.size) := Lib.hid hb6.size
           have HO9 := Lib.hid ho9; have HF9 := Lib.hid hF9
           clear ho9 hF9 hb6 q2 q2a
           have q2 := blk_cell HXP.out 2 (v := .slice A2 n2 c2) rfl
           have q2a := blk_cell (blk_alloc HXP.out (.cells #[.int .i64 0, .slice none 0 0, .slice none 0 0, .slice none 0 0] 125)) 2 (v := .slice A2 n2 c2) rfl
           (try (have hxn := HXN.out; have z0 := blk_cell hxn 0 (v := .int .i64 0) rfl; have z1 := blk_cell hxn 1 (v := .slice none 0 0) rfl; have z2 := blk_cell hxn 2 (v := .slice none 0 0) rfl; have z3 := blk_cell hxn 3 (v := .slice none 0 0) rfl; have f0 := blk_free hxn 0; have f1 := blk_free hxn 1; have f2 := blk_free hxn 2; have f3 := blk_free hxn 3; clear hxn)))
        | (go_at_call 127
           with_reducible refine (copyLists_any _ A2 na c2 ls (by have h := HL5.out.below HC.out (Nat.le_refl _); first | exact h.drew | exact h | exact h.below (below_new _ _) (Nat.le_refl _) | exact h.drew.below (below_new _ _) (Nat.le_refl _) | exact (h.below (below_new _ _) (Nat.le_refl _)).drew) (by omega)).mono ?_
           rintro e w5 ⟨A8, n8, c8, F8, rfl, ho8, hF8, hb5⟩
           (try clear z0 z1 z2 z3 f0 f1 f2 f3)
           (try replace hb5 := und1 hb5)
           (try (have hq := box_step hb5; clear hb5; obtain ⟨hb5, hxn, hsn⟩ := hq; have HXN := Lib.hid hxn; clear hxn hsn))
           (try replace hb5 := und1 hb5)
           (try (have hxn := blk_bel HXN.out hb5; clear HXN; have HXN := Lib.hid hxn; clear hxn))
           replace HC := Lib.hid (HC.out.trans (hb5.mono HC.out.size))
           replace HXP := Lib.hid (blk_bel HXP.out hb5)
           have HS5 : Hid (w2.heap.size ≤ w5.heap.size) := Lib.hid HC.out.size
           have HO8 := Lib.hid ho8; have HF8 := Lib.hid hF8
           clear ho8 hF8 hb5 q2 q2a
           have q2 := blk_cell HXP.out 2 (v := .slice A2 n2 c2) rfl
           have q2a := blk_cell (blk_alloc HXP.out (.cells #[.int .i64 0, .slice none 0 0, .slice none 0 0, .slice none 0 0] 125)) 2 (v := .slice A2 n2 c2) rfl
           (try (have hxn := HXN.out; have z0 := blk_cell hxn 0 (v := .int .i64 0) rfl; have z1 := blk_cell hxn 1 (v := .slice none 0 0) rfl; have z2 := blk_cell hxn 2 (v := .slice none 0 0) rfl; have z3 := blk_cell hxn 3 (v := .slice none 0 0) rfl; have f0 := blk_free hxn 0; have f1 := blk_free hxn 1; have f2 := blk_free hxn 2; have f3 := blk_free hxn 3; clear hxn))
           (try (have HLT := Lib.hid (blk_lt HXN.out))))
        | (go_at_call 127
           with_reducible refine (copyLists_any _ A6 nb c6 rs (by have h := HL6.out.below HC.out (Nat.le_refl _); first | exact h.drew | exact h | exact h.below (below_new _ _) (Nat.le_refl _) | exact h.drew.below (below_new _ _) (Nat.le_refl _) | exact (h.below (below_new _ _) (Nat.le_refl _)).drew) (by omega)).mono ?_
           rintro e w6 ⟨A9, n9, c9, F9, rfl, ho9, hF9, hb6⟩
           (try clear z0 z1 z2 z3 f0 f1 f2 f3)
           (try replace hb6 := und1 hb6)
           (try (have hq := box_step hb6; clear hb6; obtain ⟨hb6, hxn, hsn⟩ := hq; have HXN := Lib.hid hxn; clear hxn hsn))
           (try replace hb6 := und1 hb6)
           (try (have hxn := blk_bel HXN.out hb6; clear HXN; have HXN := Lib.hid hxn; clear hxn))
           replace HC := Lib.hid (HC.out.trans (hb6.mono HC.out.size))
           replace HXP := Lib.hid (blk_bel HXP.out hb6)
           have HS6 : Hid (w2.heap.size ≤ w6.heap.size) := Lib.hid HC.out.size
           have HO9 := Lib.hid ho9; have HF9 := Lib.hid hF9
           clear ho9 hF9 hb6 q2 q2a
           have q2 := blk_cell HXP.out 2 (v := .slice A2 n2 c2) rfl
           have q2a := blk_cell (blk_alloc HXP.out (.cells #[.int .i64 0, .slice none 0 0, .slice none 0 0, .slice none 0 0] 125)) 2 (v := .slice A2 n2 c2) rfl
           (try (have hxn := HXN.out; have z0 := blk_cell hxn 0 (v := .int .i64 0) rfl; have z1 := blk_cell hxn 1 (v := .slice none 0 0) rfl; have z2 := blk_cell hxn 2 (v := .slice none 0 0) rfl; have z3 := blk_cell hxn 3 (v := .slice none 0 0) rfl; have f0 := blk_free hxn 0; have f1 := blk_free hxn 1; have f2 := blk_free hxn 2; have f3 := blk_free hxn 3; clear hxn))
           (try (have HLT := Lib.hid (blk_lt HXN.out))))
        )
    all_goals
      go_wp2_with fail
      go_meet
      first
        | with_reducible exact cut_e1 HO8.out HO9.out HF8.out HF9.out HC.out HS5.out
        | with_reducible exact cut_e2 HXN.out HO8.out HO9.out HF8.out HF9.out HC.out HS5.out
        | with_reducible exact cut_e3 HXN.out HO8.out HO9.out HF8.out HF9.out HC.out HLT.out
        | exact cut_e1 HO8.out HO9.out HF8.out HF9.out HC.out HS5.out
        | exact cut_e2 HXN.out HO8.out HO9.out HF8.out HF9.out HC.out HS5.out
        | exact cut_e3 HXN.out HO8.out HO9.out HF8.out HF9.out HC.out HLT.out
  case rest =>
    as_aux_lemma =>
    obtain ⟨g, A8, n8, c8, F8, A9, n9, c9, F9, rfl, hbx, hge, ho8, ho9, hf8, hf9, nf8, nf9, hd89, hbc⟩ := hcut
    obtain ⟨w6, rfl⟩ : ∃ w6 : World, w6 = wc := ⟨_, rfl⟩
    have hx0 := blk_bel HX0.out hbc
    clear q2 q2a
    have q2 := blk_cell hx0 2 rfl
    have y1 := blk_cell hbx 1 rfl
    have y2 := blk_cell hbx 2 rfl
    have HX1c := Lib.hid (blk_bel HX1.out hbc)
    have HR3c := Lib.hid (HR3.out.below hbc (Nat.le_refl _))
    have HL7c := Lib.hid (HL7.out.below hbc (Nat.le_refl _))
    have HBc := Lib.hid (HB.out.trans (hbc.mono HB.out.size))
    have HSZ2 := Lib.hid hbc.size; have HGE := Lib.hid hge
    clear hge
    have hn8 : n8 ≤ 1000000000 := by have h := ho8.len; have h2 := HLLS.out; omega
    have hn9 : n9 ≤ 1000000000 := by have h := ho9.len; have h2 := HLRS.out; omega
    have HBX := Lib.hid hbx; have HO8 := Lib.hid ho8; have HO9 := Lib.hid ho9
    have HF8 := Lib.hid hf8; have HF9 := Lib.hid hf9; have NF8 := Lib.hid nf8; have NF9 := Lib.hid nf9; have HD89 := Lib.hid hd89
    clear hx0 hbx ho8 ho9 hf8 hf9 nf8 nf9 hd89 hbc
    have hwz1 : IntKind.i64.wrap (2 * z) = 2 * z := IntWalk.i64_in _ (by omega)
    have hwz2 : IntKind.i64.wrap (2 * z + 1) = 2 * z + 1 := IntWalk.i64_in _ (by omega)
    have HCL : Hid (cs.all (lenB (2 * z + 1) 9) = true → ∀ xs ∈ cs, xs.length ≤ 100000) := Lib.hid (fun h => lists_len h (by omega))
    generalize hu5 : ls.all (lenB z 9) = u5 at *
    generalize hu6 : rs.all (lenB z 9) = u6 at *
    generalize hu7 : cs.all (lenB (2 * z + 1) 9) = u7 at *
    have HU5 := Lib.hid hu5; have HU6 := Lib.hid hu6; have HU7 := Lib.hid hu7
    clear hu5 hu6 hu7
    go_wp2_with fail
    refine (areLists_any _ A8 n8 c8 ls HO8.out.rdl hn8 z 9).mono ?_
    rw [HU5.out]
    rintro e w7 ⟨rfl, hb7⟩
    cases u5 with
    | false =>
      as_aux_lemma =>
      have hx1 := blk_bel HX1c.out hb7
      have z0 := blk_cell hx1 0 (v := .int .i64 0) rfl
      have z1 := blk_cell hx1 1 (v := .slice none 0 0) rfl
      have z2 := blk_cell hx1 2 (v := .slice none 0 0) rfl
      have z3 := blk_cell hx1 3 (v := .slice none 0 0) rfl
      have f0 := blk_free hx1 0
      have f1 := blk_free hx1 1
      have f2 := blk_free hx1 2
      have f3 := blk_free hx1 3
      have HB7 := Lib.hid (HBc.out.trans (hb7.mono HBc.out.size))
      clear hx1 hb7 q2 y1 y2
      go_wp2_with fail
      exact bodyPost_ret (v := .tuple #[csV 0 none 0 0 none 0 0 none 0 0, .bool false]) (by simp [results, Try.results81, go_sem, z0, z1, z2, z3]) rfl ⟨0, none, 0, 0, none, 0, 0, none, 0, 0, by rw [← HOKB.out]; simp, by first | exact HB7.out | exact below_set4 HB7.out (by omega) HB7.out.size, by rw [← HOKB.out]; simp⟩
    | true =>
      as_aux_lemma =>
      have hbx := blk_bel HBX.out hb7
      clear y1 y2 q2
      have y2 := blk_cell hbx 2 rfl
      have HB7 := Lib.hid hb7
      clear hbx hb7
      go_wp2_with fail
      refine (areLists_any _ A9 n9 c9 rs (HO9.out.below HB7.out).rdl hn9 z 9).mono ?_
      rw [HU6.out]
      rintro e w8 ⟨rfl, hb8⟩
      have HB8 := Lib.hid (HB7.out.trans (hb8.mono HB7.out.size))
      clear hb8 HB7
      cases u6 with
      | false =>
        as_aux_lemma =>
        have hx1 := blk_bel HX1c.out HB8.out
        have z0 := blk_cell hx1 0 (v := .int .i64 0) rfl
        have z1 := blk_cell hx1 1 (v := .slice none 0 0) rfl
        have z2 := blk_cell hx1 2 (v := .slice none 0 0) rfl
        have z3 := blk_cell hx1 3 (v := .slice none 0 0) rfl
        have f0 := blk_free hx1 0
        have f1 := blk_free hx1 1
        have f2 := blk_free hx1 2
        have f3 := blk_free hx1 3
        have HB9 := Lib.hid (HBc.out.trans (HB8.out.mono HBc.out.size))
        clear hx1 y2
        go_wp2_with fail
        exact bodyPost_ret (v := .tuple #[csV 0 none 0 0 none 0 0 none 0 0, .bool false]) (by simp [results, Try.results81, go_sem, z0, z1, z2, z3]) rfl ⟨0, none, 0, 0, none, 0, 0, none, 0, 0, by rw [← HOKB.out]; simp, by first | exact HB9.out | exact below_set4 HB9.out (by omega) HB9.out.size, by rw [← HOKB.out]; simp⟩
      | true =>
        as_aux_lemma =>
        clear y2
        go_wp2_with fail
        refine (areLists_any _ A7 n3 c7 cs (HL7c.out.below HB8.out (Nat.le_refl _)) (by omega) (2 * z + 1) 9).mono ?_
        rw [HU7.out]
        rintro e w9 ⟨rfl, hb9⟩
        have HB9 := Lib.hid (HB8.out.trans (hb9.mono HB8.out.size))
        clear hb9 HB8
        cases u7 with
        | false =>
          as_aux_lemma =>
          have hx1 := blk_bel HX1c.out HB9.out
          have z0 := blk_cell hx1 0 (v := .int .i64 0) rfl
          have z1 := blk_cell hx1 1 (v := .slice none 0 0) rfl
          have z2 := blk_cell hx1 2 (v := .slice none 0 0) rfl
          have z3 := blk_cell hx1 3 (v := .slice none 0 0) rfl
          have f0 := blk_free hx1 0
          have f1 := blk_free hx1 1
          have f2 := blk_free hx1 2
          have f3 := blk_free hx1 3
          have HB10 := Lib.hid (HBc.out.trans (HB9.out.mono HBc.out.size))
          clear hx1
          go_wp2_with fail
          exact bodyPost_ret (v := .tuple #[csV 0 none 0 0 none 0 0 none 0 0, .bool false]) (by simp [results, Try.results81, go_sem, z0, z1, z2, z3]) rfl ⟨0, none, 0, 0, none, 0, 0, none, 0, 0, by rw [← HOKB.out]; simp, by first | exact HB10.out | exact below_set4 HB10.out (by omega) HB10.out.size, by rw [← HOKB.out]; simp⟩
        | true =>
          as_aux_lemma =>
          have HCL2 := Lib.hid (HCL.out rfl)
          go_wp2_with fail
          refine (stated_any _ A3 n3 c3 sts (HR3c.out.below HB9.out (Nat.le_refl _)) HC3.out A7 c7 cs (HL7c.out.below HB9.out (Nat.le_refl _)) (by omega) HCL2.out).mono ?_
          rw [HSS.out]
          rintro e w10 ⟨A10, n10, c10, F10, rfl, ho10, hF10, hb10⟩
          have HB10 := Lib.hid (HB9.out.trans (hb10.mono HB9.out.size))
          have HSZ9 := Lib.hid HB9.out.size
          have hbx := blk_bel HBX.out HB10.out
          have x0 := blk_cell hbx 0 rfl
          have x1 := blk_cell hbx 1 rfl
          have x2 := blk_cell hbx 2 rfl
          have x3 := blk_cell hbx 3 rfl
          have k3 := blk_free hbx 3
          have HBX10 := Lib.hid hbx
          have HO10 := Lib.hid ho10; have HF10 := Lib.hid hF10
          have hn10 : n10 ≤ 1000000000 := by have h := ho10.len; have h2 := HLST.out; omega
          clear hbx ho10 hF10 hb10
          as_aux_lemma =>
          go_upto_region 11 with fail
          obtain ⟨w11, hw11⟩ : ∃ w11, w11 = w10.setCell ⟨g, 3, none⟩ (.slice A10 n10 c10) := ⟨_, rfl⟩
          rw [← hw11]
          have hc11 : Ch (· = g) w10 w11 := by rw [hw11]; exact ch_set _ _ _ _
          have hbx11 : w11.heap[g]? = some (.cells #[.int .i64 z, .slice A8 n8 c8, .slice A9 n9 c9, .slice A10 n10 c10] 125 (0, 0)) := by rw [hw11]; have h := blk_set HBX10.out 3 (.slice A10 n10 c10); simpa using h
          have hx1 : w11.heap[w.heap.size + 1]? = some (.cells csZ 125 (0, 0)) := blk_ch (blk_bel HX1c.out HB10.out) hc11 (by have h1 := HWS.out; have h2 := HGE.out; omega)
          have HG6 : Hid (g < w6.heap.size) := Lib.hid (blk_lt HBX.out)
          have ho8 : OwnP w11 F8 A8 n8 c8 ls := (HO8.out.below HB10.out).ch hc11 (fun q h1 h2 => NF8.out (by rw [← h2]; exact h1))
          have ho9 : OwnP w11 F9 A9 n9 c9 rs := (HO9.out.below HB10.out).ch hc11 (fun q h1 h2 => NF9.out (by rw [← h2]; exact h1))
          have ho10 : OwnP w11 F10 A10 n10 c10 ss := HO10.out.ch hc11 (fun q h1 h2 => by have h3 := (HF10.out q h1).1; have h4 := HG6.out; have h5 : q = g := h2; have h6 := HSZ9.out; omega)
          have HB11 : Hid (Below w.heap.size w w11) := Lib.hid (below_ch (HBc.out.trans (HB10.out.mono HBc.out.size)) hc11 (fun q h => by have h5 : q = g := h; have h6 := HB.out.size; have h7 := HGE.out; omega) (by have h1 := HBc.out.size; have h2 := HB10.out.size; omega))
          have x0 := blk_cell hbx11 0 rfl
          have x1 := blk_cell hbx11 1 rfl
          have x2 := blk_cell hbx11 2 rfl
          have x3 := blk_cell hbx11 3 rfl
          have HX11 := Lib.hid hx1; have HBX11 := Lib.hid hbx11
          have HP8 := Lib.hid ho8; have HP9 := Lib.hid ho9; have HP10 := Lib.hid ho10
          have HR : Hid (∀ q, F8 q ∨ F9 q ∨ F10 q → w2.heap.size ≤ q) := Lib.hid (fun q hq => by
            rcases hq with hq | hq | hq
            · exact HF8.out q hq
            · exact HF9.out q hq
            · have h3 := (HF10.out q hq).1; have h4 := HSZ2.out; have h5 := HSZ9.out; omega)
          have HD1 : Hid (∀ q, F8 q → F10 q → False) := Lib.hid (fun q h1 h2 => by have h3 := HO8.out.lt q h1; have h4 := (HF10.out q h2).1; have h5 := HSZ9.out; omega)
          have HD2 : Hid (∀ q, F9 q → F10 q → False) := Lib.hid (fun q h1 h2 => by have h3 := HO9.out.lt q h1; have h4 := (HF10.out q h2).1; have h5 := HSZ9.out; omega)
          have z0 := blk_cell hx1 0 (v := .int .i64 0) rfl
          have z1 := blk_cell hx1 1 (v := .slice none 0 0) rfl
          have z2 := blk_cell hx1 2 (v := .slice none 0 0) rfl
          have z3 := blk_cell hx1 3 (v := .slice none 0 0) rfl
          have f0 := blk_free hx1 0
          have f1 := blk_free hx1 1
          have f2 := blk_free hx1 2
          have f3 := blk_free hx1 3
          clear hw11 hc11 hbx11 hx1 ho8 ho9 ho10 k3 HO8 HO9 HO10 HBX10 HBX
          (first
            | (go_region_law (first
                | (go_simp
                   go_at_call 130
                   refine (increasing_any _ z A8 n8 c8 ls (by exact HP8.out.rdl.drew) hn8 A9 n9 c9 rs (by exact HP9.out.rdl.drew) hn9 A10 n10 c10 ss (by exact HP10.out.rdl.drew) hn10).mono ?_
                   rintro e w12 ⟨rfl, hb12⟩
                   have HB12 := Lib.hid (und1 hb12)
                   have hx12 := blk_bel HX11.out HB12.out
                   have hg12 := blk_bel HBX11.out HB12.out
                   clear hb12 x0 x1 x2 x3 z0 z1 z2 z3 f0 f1 f2 f3
                   have x0 := blk_cell hg12 0 rfl
                   have x1 := blk_cell hg12 1 rfl
                   have x2 := blk_cell hg12 2 rfl
                   have x3 := blk_cell hg12 3 rfl
                   have z0 := blk_cell hx12 0 (v := .int .i64 0) rfl
                   have z1 := blk_cell hx12 1 (v := .slice none 0 0) rfl
                   have z2 := blk_cell hx12 2 (v := .slice none 0 0) rfl
                   have z3 := blk_cell hx12 3 (v := .slice none 0 0) rfl
                   have f0 := blk_free hx12 0
                   have f1 := blk_free hx12 1
                   have f2 := blk_free hx12 2
                   have f3 := blk_free hx12 3
                   clear hx12 hg12)))
            | fail)
          all_goals
            as_aux_lemma =>
            go_wp2_with fail
            have hcs4 : Ch (fun q => q = w.heap.size + 1) w12 ((((w12.setCell ⟨w.heap.size + 1, 0, none⟩ (.int .i64 z)).setCell ⟨w.heap.size + 1, 1, none⟩ (.slice A8 n8 c8)).setCell ⟨w.heap.size + 1, 2, none⟩ (.slice A9 n9 c9)).setCell ⟨w.heap.size + 1, 3, none⟩ (.slice A10 n10 c10)) :=
              (((ch_set _ _ 0 _).trans (ch_set _ _ 1 _)).trans (ch_set _ _ 2 _)).trans (ch_set _ _ 3 _)
            have hg : ∀ q, (F8 q ∨ F9 q ∨ F10 q) → ¬ q = w.heap.size + 1 := fun q hq => by have h1 := HR.out q hq; have h2 := HWS.out; omega
            have hbb := HB11.out.trans (HB12.out.mono HB11.out.size)
            exact bodyPost_ret (v := .tuple #[csV z A8 n8 c8 A9 n9 c9 A10 n10 c10, .bool (rises ls && rises rs && rises ss)]) (by simp [results, Try.results81, go_sem, z0, z1, z2, z3]) rfl ⟨z, A8, n8, c8, A9, n9, c9, A10, n10, c10, by rw [← HOKB.out]; simp, below_set4 hbb (by omega) hbb.size, fun _ => ⟨rfl, F8, F9, F10, (HP8.out.below HB12.out).ch hcs4 (fun q h1 h2 => hg q (.inl h1) h2), (HP9.out.below HB12.out).ch hcs4 (fun q h1 h2 => hg q (.inr (.inl h1)) h2), (HP10.out.below HB12.out).ch hcs4 (fun q h1 h2 => hg q (.inr (.inr h1)) h2), fun q hq => ⟨by have h1 := HR.out q hq; have h2 := HB.out.size; omega, by
              have h9 := HB12.out.size
              rcases hq with hq | hq | hq
              · have h1 := HP8.out.lt q hq; simp; omega
              · have h1 := HP9.out.lt q hq; simp; omega
              · have h1 := HP10.out.lt q hq; simp; omega⟩, HD89.out, HD1.out, HD2.out⟩⟩
end Go.Proofs.Ytcpkhhammafchaa
