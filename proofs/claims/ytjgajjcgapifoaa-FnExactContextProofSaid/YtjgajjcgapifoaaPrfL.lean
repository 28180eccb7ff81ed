/- Proofs by contexts: the parts of one, where its numbers do not fit (program). -/
import Derived.Test.YtjgajjcgapifoaaPrfK
namespace Go.Proofs.Ytjgajjcgapifoaa
open Go.RowKit
set_option linter.unusedVariables false
set_option linter.unusedSimpArgs false
theorem num_bd {ns : List Int} {i : Nat} (h : allIn ns (-1000000000000) 1000000000000 = true) (hi : i < ns.length) : -1000000000000 ≤ ns.getD i 0 ∧ ns.getD i 0 ≤ 1000000000000 := allIn_true.1 h _ (List.mem_of_getElem? (num_at hi))
set_option maxHeartbeats 8000000 in
theorem setsIn_g2 (w : World) (k : Int) (A1 : Option Addr) (n1 c1 : Nat) (ns : List Int) (hr1 : Rd w A1 n1 (ints ns)) (hc1 : n1 ≤ c1) (A2 : Option Addr) (n2 c2 : Nat) (ws : List (List Int)) (hl2 : ws.length = n2) (m : Int) (ls rs cs : List (List Int)) (hok : okP k ns ws = true) (hg1 : g1 k ns = true) (hg2 : g2 ns n2 = false) :
    Calls Try.prog 101 #[prfV k A1 n1 c1 A2 n2 c2] w (CsPost w m ls rs cs false) := by
  obtain ⟨rfl, h3, _, _⟩ := g1_bd hg1
  obtain ⟨_, hn1, hn2, hbd, _⟩ := okP_bd hok
  have hi : inB (pN ns) 1 4 = true := by simp only [g1, Bool.and_eq_true] at hg1; exact hg1.2
  have hl : ns.length = n1 := by simpa using hr1.1
  rw [hl] at h3 hn1
  rw [hl2] at hn2
  obtain ⟨w0, hw0⟩ : ∃ w0, w0 = (w.alloc (.cells #[.int .i64 8, .slice A1 n1 c1, .slice A2 n2 c2] 55)).alloc (.cells csZ 106) := ⟨_, rfl⟩
  have hB : Below w.heap.size w w0 := by rw [hw0]; exact (below_new w _).trans ((below_new _ _).mono (by simp))
  have hx0 : w0.heap[w.heap.size]? = some (.cells #[.int .i64 8, .slice A1 n1 c1, .slice A2 n2 c2] 55 (0, 0)) := by rw [hw0]; exact blk_alloc (box_new w _ _) _
  have hx1 : w0.heap[w.heap.size + 1]? = some (.cells csZ 106 (0, 0)) := by rw [hw0]; have h := box_new (w.alloc (.cells #[.int .i64 8, .slice A1 n1 c1, .slice A2 n2 c2] 55)) csZ 106; simpa using h
  have q0 := blk_cell hx0 0 rfl
  have q1 := blk_cell hx0 1 rfl
  have q2 := blk_cell hx0 2 rfl
  have y0 := blk_cell hx1 0 (v := .int .i64 0) rfl
  have y1 := blk_cell hx1 1 (v := .slice none 0 0) rfl
  have y2 := blk_cell hx1 2 (v := .slice none 0 0) rfl
  have y3 := blk_cell hx1 3 (v := .slice none 0 0) rfl
  have f0 := blk_free hx1 0
  have f1 := blk_free hx1 1
  have f2 := blk_free hx1 2
  have f3 := blk_free hx1 3
  have l1 := blk_lt hx1
  have HB := Lib.hid hB
  have hR1 := hr1.below hB (Nat.le_refl _)
  have HX0 := Lib.hid hx0; have HX1 := Lib.hid hx1
  clear hB hx0 hx1
  have HI := Lib.hid hi
  obtain ⟨b, off, hA, hbs, r0⟩ := hR1.at_ (ints_get (num_at (ns := ns) (i := 0) (by omega)))
  obtain ⟨b', off', hA', _, r1⟩ := hR1.at_ (ints_get (num_at (ns := ns) (i := 1) (by omega)))
  obtain ⟨b'', off'', hA'', _, r2⟩ := hR1.at_ (ints_get (num_at (ns := ns) (i := 2) (by omega)))
  subst hA
  injection hA' with hA'
  injection hA' with e1 e2
  subst e1 e2
  injection hA'' with hA''
  injection hA'' with e1 e2
  subst e1 e2
  have hba := num_bd (i := 1) hbd (by omega)
  have hbb := num_bd (i := 2) hbd (by omega)
  have ep : ns.getD 0 0 = pN ns := rfl
  have ea : ns.getD 1 0 = pA ns := rfl
  have eb : ns.getD 2 0 = pB ns := rfl
  rw [ep] at r0
  rw [ea] at r1 hba
  rw [eb] at r2 hbb
  simp only [Nat.add_zero] at r0
  have hct := fun (w : World) => run_cutF Try.underlying25 Try.szI w (some ⟨b, off, none⟩) n1 c1 3 3 .i64 rfl (by omega)
  have HR3 : Hid (Rd w0 (cutA (some ⟨b, off, none⟩) 3 c1 1) (n1 - 3) (ints (ns.drop 3))) := Lib.hid (by have h := hR1.cut 3 c1 (by omega) hc1; rwa [← List.map_drop] at h)
  have HG2 : Hid ((inB (pA ns) 0 n2 && inB (pB ns) 0 n2 && !(pA ns + pB ns + ((n1 - 3 : Nat) : Int) != (n2 : Int)) && allIn (ns.drop 3) 0 1000000000000) = false) := Lib.hid (by
    rw [← hg2, g2, hl]; congr 2; rw [Bool.eq_iff_iff]; simp)
  have hn1' : (n1 - 3 : Nat) ≤ 300 := by omega
  generalize cutA (some ⟨b, off, none⟩) 3 c1 1 = A3 at *
  generalize n1 - 3 = n3 at *
  generalize c1 - 3 = c3 at *
  generalize pN ns = z at *
  generalize pA ns = a at *
  generalize pB ns = b2 at *
  generalize ns.drop 3 = sts at *
  have hw1 : IntKind.i64.wrap (a + b2) = a + b2 := IntWalk.i64_in _ (by omega)
  have hw2 : IntKind.i64.wrap (a + b2 + (n3 : Int)) = a + b2 + (n3 : Int) := IntWalk.i64_in _ (by omega)
  have i0 : (0 : Int) < (n1 : Int) := by omega
  have i1 : (1 : Int) < (n1 : Int) := by omega
  have i2 : (2 : Int) < (n1 : Int) := by omega
  have j1 : 1 < n1 := by omega
  have j2 : 2 < n1 := by omega
  have i3 : ¬ (n1 : Int) < 3 := by omega
  clear hr1 hR1 hl hok hg1 hg2 hbd hl2 hi ep ea eb hba hbb h3
  go_enter Try.func101, Try.ntmps101
  go_upto_region 1 with fail
  rw [← hw0]
  clear hw0
  go_wp2_with fail
  refine (contextSizeOk_any _ _).mono ?_
  rw [HI.out]
  rintro e w3 ⟨rfl, rfl⟩
  go_wp2_with fail
  go_region
  obtain ⟨w1, hw1'⟩ : ∃ w1, w1 = w0.drew := ⟨_, rfl⟩
  have hx0 : w1.heap[w.heap.size]? = some (.cells #[.int .i64 8, .slice (some ⟨b, off, none⟩) n1 c1, .slice A2 n2 c2] 55 (0, 0)) := by rw [hw1']; exact HX0.out
  have hx1 : w1.heap[w.heap.size + 1]? = some (.cells csZ 106 (0, 0)) := by rw [hw1']; exact HX1.out
  have HR3' : Hid (Rd w1 A3 n3 (ints sts)) := Lib.hid (by rw [hw1']; exact HR3.out)
  have HB' : Hid (Below w.heap.size w w1) := Lib.hid (by rw [hw1']; exact below_drew1 HB.out)
  rw [← hw1']
  clear hw1' q0 q1 q2 y0 y1 y2 y3 f0 f1 f2 f3 l1 HX0 HX1 HR3 HB r0 r1 r2 hct
  have q2 := blk_cell hx0 2 rfl
  have y0 := blk_cell hx1 0 (v := .int .i64 0) rfl
  have y1 := blk_cell hx1 1 (v := .slice none 0 0) rfl
  have y2 := blk_cell hx1 2 (v := .slice none 0 0) rfl
  have y3 := blk_cell hx1 3 (v := .slice none 0 0) rfl
  have f0 := blk_free hx1 0
  have f1 := blk_free hx1 1
  have f2 := blk_free hx1 2
  have f3 := blk_free hx1 3
  have l1 := blk_lt hx1
  clear hx0 hx1
  have hs1 : ∀ n, Calls Try.prog 72 #[.slice A2 n2 c2] (w1.drewN n) (fun e w' => e = .returned (.int .i64 n2) ∧ w' = w1.drewN n) := fun n => (sizeL_any _ _ _ _).mono fun e w' h => ⟨h.1, h.2.symm⟩
  have hs2 : ∀ n, Calls Try.prog 108 #[.slice A3 n3 c3] (w1.drewN n) (fun e w' => e = .returned (.int .i64 n3) ∧ w' = w1.drewN n) := fun n => (sizeI_any _ _ _ _).mono fun e w' h => ⟨h.1, h.2.symm⟩
  have hwa : ∀ n, Calls Try.prog 109 #[.int .i64 a, .int .i64 0, .int .i64 n2] (w1.drewN n) (fun e w' => e = .returned (.bool (inB a 0 n2)) ∧ w' = w1.drewN n) := fun n => (within_any _ _ _ _).mono fun e w' h => ⟨h.1, h.2.symm⟩
  have hwb : ∀ n, Calls Try.prog 109 #[.int .i64 b2, .int .i64 0, .int .i64 n2] (w1.drewN n) (fun e w' => e = .returned (.bool (inB b2 0 n2)) ∧ w' = w1.drewN n) := fun n => (within_any _ _ _ _).mono fun e w' h => ⟨h.1, h.2.symm⟩
  have hal : ∀ n, Calls Try.prog 77 #[.slice A3 n3 c3, .int .i64 0, .int .i64 1000000000000] (w1.drewN n) (fun e w' => e = .returned (.bool (allIn sts 0 1000000000000)) ∧ w' = w1.drewN n) := fun n => (allWithin_any _ _ _ _ sts (by have h := HR3'.out; exact h) (by omega) _ _).mono fun e w' h => ⟨h.1, h.2.symm⟩
  have HS1 := Lib.hid (fun n => Calls.quiet_of_same (hs1 n))
  have HS2 := Lib.hid (fun n => Calls.quiet_of_same (hs2 n))
  have HWA := Lib.hid (fun n => Calls.quiet_of_same (hwa n))
  have HWB := Lib.hid (fun n => Calls.quiet_of_same (hwb n))
  have HAL := Lib.hid (fun n => Calls.quiet_of_same (hal n))
  clear hs1 hs2 hwa hwb hal
  generalize inB a 0 n2 = u1 at *
  generalize inB b2 0 n2 = u2 at *
  generalize hu3 : (a + b2 + (n3 : Int) != (n2 : Int)) = u3 at *
  generalize allIn sts 0 1000000000000 = u4 at *
  cases u1 with
  | false =>
    go_wp2_with fail
    go_quiet (first
      | (go_at_call 72; with_reducible exact HS1.out _)
      | (go_at_call 108; with_reducible exact HS2.out _)
      | (go_at_call 109; with_reducible exact HWA.out _)
      | (go_at_call 109; with_reducible exact HWB.out _)
      | (go_at_call 77; with_reducible exact HAL.out _))
    go_wp2_with fail
    exact bodyPost_ret (v := .tuple #[csV 0 none 0 0 none 0 0 none 0 0, .bool false]) (by simp [results, Try.results101, go_sem, y0, y1, y2, y3]) rfl ⟨0, none, 0, 0, none, 0, 0, none, 0, 0, rfl, by first | exact below_drewN HB'.out | exact below_set4 (below_drewN HB'.out) (by omega) HB'.out.size, by simp⟩
  | true =>
    cases u2 with
    | false =>
      go_wp2_with fail
      go_quiet (first
        | (go_at_call 72; with_reducible exact HS1.out _)
        | (go_at_call 108; with_reducible exact HS2.out _)
        | (go_at_call 109; with_reducible exact HWA.out _)
        | (go_at_call 109; with_reducible exact HWB.out _)
        | (go_at_call 77; with_reducible exact HAL.out _))
      go_wp2_with fail
      exact bodyPost_ret (v := .tuple #[csV 0 none 0 0 none 0 0 none 0 0, .bool false]) (by simp [results, Try.results101, go_sem, y0, y1, y2, y3]) rfl ⟨0, none, 0, 0, none, 0, 0, none, 0, 0, rfl, by first | exact below_drewN HB'.out | exact below_set4 (below_drewN HB'.out) (by omega) HB'.out.size, by simp⟩
    | true =>
      cases u3 with
      | true =>
        go_wp2_with fail
        go_quiet (first
          | (go_at_call 72; with_reducible exact HS1.out _)
          | (go_at_call 108; with_reducible exact HS2.out _)
          | (go_at_call 109; with_reducible exact HWA.out _)
          | (go_at_call 109; with_reducible exact HWB.out _)
          | (go_at_call 77; with_reducible exact HAL.out _))
        go_wp2_with fail
        exact bodyPost_ret (v := .tuple #[csV 0 none 0 0 none 0 0 none 0 0, .bool false]) (by simp [results, Try.results101, go_sem, y0, y1, y2, y3]) rfl ⟨0, none, 0, 0, none, 0, 0, none, 0, 0, rfl, by first | exact below_drewN HB'.out | exact below_set4 (below_drewN HB'.out) (by omega) HB'.out.size, by simp⟩
      | false =>
        cases u4 with
        | true => exfalso; have h := HG2.out; simp at h
        | false =>
          go_wp2_with fail
          go_quiet (first
            | (go_at_call 72; with_reducible exact HS1.out _)
            | (go_at_call 108; with_reducible exact HS2.out _)
            | (go_at_call 109; with_reducible exact HWA.out _)
            | (go_at_call 109; with_reducible exact HWB.out _)
            | (go_at_call 77; with_reducible exact HAL.out _))
          go_wp2_with fail
          exact bodyPost_ret (v := .tuple #[csV 0 none 0 0 none 0 0 none 0 0, .bool false]) (by simp [results, Try.results101, go_sem, y0, y1, y2, y3]) rfl ⟨0, none, 0, 0, none, 0, 0, none, 0, 0, rfl, by first | exact below_drewN HB'.out | exact below_set4 (below_drewN HB'.out) (by omega) HB'.out.size, by simp⟩
end Go.Proofs.Ytjgajjcgapifoaa
