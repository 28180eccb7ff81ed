/- The reference's reader of programs: expressions. Printed by mk_pqs.py. -/
import Derived.Test.YtadmbphefpfbmaaGreatDoorPqF
import Derived.Test.YtadmbphefpfbmaaGreatDoorGJ
namespace Go.Proofs.YtadmbphefpfbmaaGreatDoor
open Go.RowKit
set_option linter.unusedVariables false
set_option linter.unusedSimpArgs false
attribute [local go_sem ↓] Go.wp_at_zero Go.wp_at_succ
def RxQ (w : World) (x : Ex) (nx : Nat) (e : Ending) (w' : World) : Prop :=
  ∃ A c, e = .returned (.tuple #[.slice A x.els.length c, .int .i64 (nx : Int), .bool true]) ∧ w'.ownsRow w.heap.size 110 2 (.slice A x.els.length c) x.els.length (ints (eNums x.els)) ∧ Below w.heap.size w w'
set_option maxHeartbeats 8000000 in
set_option maxRecDepth 100000 in
theorem readExprY_n : ∀ (w : World) (s : ByteArray) (at_ : Nat) (d : Int), BsAt s at_ (Ex.leaf (0, 0)).rn → ((Ex.leaf (0, 0)).deep : Int) ≤ d → d ≤ 1000 → at_ + (Ex.leaf (0, 0)).rn.length ≤ 100000 → Calls Tryz.prog 96 #[.string s, .int .i64 (at_ : Int), .int .i64 d] w (RxQ w (Ex.leaf (0, 0)) (at_ + (Ex.leaf (0, 0)).rn.length)) := by
  intro w s at_ d hb hd hd2 hat
  obtain ⟨h1, hc0⟩ := hb 0 110 rfl at_ (by omega)
  have HBY := Lib.hid hb
  have HDD : Hid (1 ≤ d ∧ d ≤ 1000) := Lib.hid (by simp only [Ex.deep] at hd; omega)
  have HD := Lib.hid hd
  have HAT := Lib.hid hat
  have hd0 : (d == 0) = false := by rw [beq_eq_false_iff_ne]; have := HDD.out; omega
  have hlt : (at_ : Int) < (s.size : Int) := by omega
  have h0 : (0 : Int) ≤ (at_ : Int) := by omega
  clear hb hd hat
  have hat := HAT.out
  go_enter Tryz.func96, Tryz.ntmps96
  go_wp2_with (first
    | (go_at_call 135
       have hh := l01Digit_any w 110 (by decide)
       refine hh.mono ?_
       rintro e w' ⟨rfl, rfl⟩
       clear hh))
  refine bodyPost_ret (v := .tuple #[.slice (some ⟨w.heap.size, 0, none⟩) 1 1, .int .i64 ((at_ : Int) + 1), .bool true]) (by simp [results, Tryz.results96, go_sem]) rfl ?_
  exact ⟨_, _, by simp [Ex.rn, Ex.els], lit_elG w 0 0, below_new _ _⟩
set_option maxHeartbeats 8000000 in
set_option maxRecDepth 100000 in
theorem readExprY_v0 : ∀ (w : World) (s : ByteArray) (at_ : Nat) (d : Int), BsAt s at_ (Ex.leaf (1, (0 : Int))).rn → ((Ex.leaf (1, (0 : Int))).deep : Int) ≤ d → d ≤ 1000 → at_ + (Ex.leaf (1, (0 : Int))).rn.length ≤ 100000 → Calls Tryz.prog 96 #[.string s, .int .i64 (at_ : Int), .int .i64 d] w (RxQ w (Ex.leaf (1, (0 : Int))) (at_ + (Ex.leaf (1, (0 : Int))).rn.length)) := by
  intro w s at_ d hb hd hd2 hat
  obtain ⟨h1, hc0⟩ := hb 0 48 rfl at_ (by omega)
  have HBY := Lib.hid hb
  have HDD : Hid (1 ≤ d ∧ d ≤ 1000) := Lib.hid (by simp only [Ex.deep] at hd; omega)
  have HD := Lib.hid hd
  have HAT := Lib.hid hat
  have hd0 : (d == 0) = false := by rw [beq_eq_false_iff_ne]; have := HDD.out; omega
  have hlt : (at_ : Int) < (s.size : Int) := by omega
  have h0 : (0 : Int) ≤ (at_ : Int) := by omega
  clear hb hd hat
  have hat := HAT.out
  go_enter Tryz.func96, Tryz.ntmps96
  go_wp2_with (first
    | (go_at_call 135
       have hh := l01Digit_any w 48 (by decide)
       refine hh.mono ?_
       rintro e w' ⟨rfl, rfl⟩
       clear hh))
  refine bodyPost_ret (v := .tuple #[.slice (some ⟨w.heap.size, 0, none⟩) 1 1, .int .i64 ((at_ : Int) + 1), .bool true]) (by simp [results, Tryz.results96, go_sem]) rfl ?_
  exact ⟨_, _, by simp [Ex.rn, Ex.els], lit_elG w 1 0, below_new _ _⟩
set_option maxHeartbeats 8000000 in
set_option maxRecDepth 100000 in
theorem readExprY_v1 : ∀ (w : World) (s : ByteArray) (at_ : Nat) (d : Int), BsAt s at_ (Ex.leaf (1, (1 : Int))).rn → ((Ex.leaf (1, (1 : Int))).deep : Int) ≤ d → d ≤ 1000 → at_ + (Ex.leaf (1, (1 : Int))).rn.length ≤ 100000 → Calls Tryz.prog 96 #[.string s, .int .i64 (at_ : Int), .int .i64 d] w (RxQ w (Ex.leaf (1, (1 : Int))) (at_ + (Ex.leaf (1, (1 : Int))).rn.length)) := by
  intro w s at_ d hb hd hd2 hat
  obtain ⟨h1, hc0⟩ := hb 0 49 rfl at_ (by omega)
  have HBY := Lib.hid hb
  have HDD : Hid (1 ≤ d ∧ d ≤ 1000) := Lib.hid (by simp only [Ex.deep] at hd; omega)
  have HD := Lib.hid hd
  have HAT := Lib.hid hat
  have hd0 : (d == 0) = false := by rw [beq_eq_false_iff_ne]; have := HDD.out; omega
  have hlt : (at_ : Int) < (s.size : Int) := by omega
  have h0 : (0 : Int) ≤ (at_ : Int) := by omega
  clear hb hd hat
  have hat := HAT.out
  go_enter Tryz.func96, Tryz.ntmps96
  go_wp2_with (first
    | (go_at_call 135
       have hh := l01Digit_any w 49 (by decide)
       refine hh.mono ?_
       rintro e w' ⟨rfl, rfl⟩
       clear hh))
  refine bodyPost_ret (v := .tuple #[.slice (some ⟨w.heap.size, 0, none⟩) 1 1, .int .i64 ((at_ : Int) + 1), .bool true]) (by simp [results, Tryz.results96, go_sem]) rfl ?_
  exact ⟨_, _, by simp [Ex.rn, Ex.els], lit_elG w 1 1, below_new _ _⟩
set_option maxHeartbeats 8000000 in
set_option maxRecDepth 100000 in
theorem readExprY_v2 : ∀ (w : World) (s : ByteArray) (at_ : Nat) (d : Int), BsAt s at_ (Ex.leaf (1, (2 : Int))).rn → ((Ex.leaf (1, (2 : Int))).deep : Int) ≤ d → d ≤ 1000 → at_ + (Ex.leaf (1, (2 : Int))).rn.length ≤ 100000 → Calls Tryz.prog 96 #[.string s, .int .i64 (at_ : Int), .int .i64 d] w (RxQ w (Ex.leaf (1, (2 : Int))) (at_ + (Ex.leaf (1, (2 : Int))).rn.length)) := by
  intro w s at_ d hb hd hd2 hat
  obtain ⟨h1, hc0⟩ := hb 0 50 rfl at_ (by omega)
  have HBY := Lib.hid hb
  have HDD : Hid (1 ≤ d ∧ d ≤ 1000) := Lib.hid (by simp only [Ex.deep] at hd; omega)
  have HD := Lib.hid hd
  have HAT := Lib.hid hat
  have hd0 : (d == 0) = false := by rw [beq_eq_false_iff_ne]; have := HDD.out; omega
  have hlt : (at_ : Int) < (s.size : Int) := by omega
  have h0 : (0 : Int) ≤ (at_ : Int) := by omega
  clear hb hd hat
  have hat := HAT.out
  go_enter Tryz.func96, Tryz.ntmps96
  go_wp2_with (first
    | (go_at_call 135
       have hh := l01Digit_any w 50 (by decide)
       refine hh.mono ?_
       rintro e w' ⟨rfl, rfl⟩
       clear hh))
  refine bodyPost_ret (v := .tuple #[.slice (some ⟨w.heap.size, 0, none⟩) 1 1, .int .i64 ((at_ : Int) + 1), .bool true]) (by simp [results, Tryz.results96, go_sem]) rfl ?_
  exact ⟨_, _, by simp [Ex.rn, Ex.els], lit_elG w 1 2, below_new _ _⟩
set_option maxHeartbeats 8000000 in
set_option maxRecDepth 100000 in
theorem readExprY_v3 : ∀ (w : World) (s : ByteArray) (at_ : Nat) (d : Int), BsAt s at_ (Ex.leaf (1, (3 : Int))).rn → ((Ex.leaf (1, (3 : Int))).deep : Int) ≤ d → d ≤ 1000 → at_ + (Ex.leaf (1, (3 : Int))).rn.length ≤ 100000 → Calls Tryz.prog 96 #[.string s, .int .i64 (at_ : Int), .int .i64 d] w (RxQ w (Ex.leaf (1, (3 : Int))) (at_ + (Ex.leaf (1, (3 : Int))).rn.length)) := by
  intro w s at_ d hb hd hd2 hat
  obtain ⟨h1, hc0⟩ := hb 0 51 rfl at_ (by omega)
  have HBY := Lib.hid hb
  have HDD : Hid (1 ≤ d ∧ d ≤ 1000) := Lib.hid (by simp only [Ex.deep] at hd; omega)
  have HD := Lib.hid hd
  have HAT := Lib.hid hat
  have hd0 : (d == 0) = false := by rw [beq_eq_false_iff_ne]; have := HDD.out; omega
  have hlt : (at_ : Int) < (s.size : Int) := by omega
  have h0 : (0 : Int) ≤ (at_ : Int) := by omega
  clear hb hd hat
  have hat := HAT.out
  go_enter Tryz.func96, Tryz.ntmps96
  go_wp2_with (first
    | (go_at_call 135
       have hh := l01Digit_any w 51 (by decide)
       refine hh.mono ?_
       rintro e w' ⟨rfl, rfl⟩
       clear hh))
  refine bodyPost_ret (v := .tuple #[.slice (some ⟨w.heap.size, 0, none⟩) 1 1, .int .i64 ((at_ : Int) + 1), .bool true]) (by simp [results, Tryz.results96, go_sem]) rfl ?_
  exact ⟨_, _, by simp [Ex.rn, Ex.els], lit_elG w 1 3, below_new _ _⟩
set_option maxHeartbeats 8000000 in
set_option maxRecDepth 100000 in
theorem readExprY_v4 : ∀ (w : World) (s : ByteArray) (at_ : Nat) (d : Int), BsAt s at_ (Ex.leaf (1, (4 : Int))).rn → ((Ex.leaf (1, (4 : Int))).deep : Int) ≤ d → d ≤ 1000 → at_ + (Ex.leaf (1, (4 : Int))).rn.length ≤ 100000 → Calls Tryz.prog 96 #[.string s, .int .i64 (at_ : Int), .int .i64 d] w (RxQ w (Ex.leaf (1, (4 : Int))) (at_ + (Ex.leaf (1, (4 : Int))).rn.length)) := by
  intro w s at_ d hb hd hd2 hat
  obtain ⟨h1, hc0⟩ := hb 0 52 rfl at_ (by omega)
  have HBY := Lib.hid hb
  have HDD : Hid (1 ≤ d ∧ d ≤ 1000) := Lib.hid (by simp only [Ex.deep] at hd; omega)
  have HD := Lib.hid hd
  have HAT := Lib.hid hat
  have hd0 : (d == 0) = false := by rw [beq_eq_false_iff_ne]; have := HDD.out; omega
  have hlt : (at_ : Int) < (s.size : Int) := by omega
  have h0 : (0 : Int) ≤ (at_ : Int) := by omega
  clear hb hd hat
  have hat := HAT.out
  go_enter Tryz.func96, Tryz.ntmps96
  go_wp2_with (first
    | (go_at_call 135
       have hh := l01Digit_any w 52 (by decide)
       refine hh.mono ?_
       rintro e w' ⟨rfl, rfl⟩
       clear hh))
  refine bodyPost_ret (v := .tuple #[.slice (some ⟨w.heap.size, 0, none⟩) 1 1, .int .i64 ((at_ : Int) + 1), .bool true]) (by simp [results, Tryz.results96, go_sem]) rfl ?_
  exact ⟨_, _, by simp [Ex.rn, Ex.els], lit_elG w 1 4, below_new _ _⟩
set_option maxHeartbeats 8000000 in
set_option maxRecDepth 100000 in
theorem readExprY_v5 : ∀ (w : World) (s : ByteArray) (at_ : Nat) (d : Int), BsAt s at_ (Ex.leaf (1, (5 : Int))).rn → ((Ex.leaf (1, (5 : Int))).deep : Int) ≤ d → d ≤ 1000 → at_ + (Ex.leaf (1, (5 : Int))).rn.length ≤ 100000 → Calls Tryz.prog 96 #[.string s, .int .i64 (at_ : Int), .int .i64 d] w (RxQ w (Ex.leaf (1, (5 : Int))) (at_ + (Ex.leaf (1, (5 : Int))).rn.length)) := by
  intro w s at_ d hb hd hd2 hat
  obtain ⟨h1, hc0⟩ := hb 0 53 rfl at_ (by omega)
  have HBY := Lib.hid hb
  have HDD : Hid (1 ≤ d ∧ d ≤ 1000) := Lib.hid (by simp only [Ex.deep] at hd; omega)
  have HD := Lib.hid hd
  have HAT := Lib.hid hat
  have hd0 : (d == 0) = false := by rw [beq_eq_false_iff_ne]; have := HDD.out; omega
  have hlt : (at_ : Int) < (s.size : Int) := by omega
  have h0 : (0 : Int) ≤ (at_ : Int) := by omega
  clear hb hd hat
  have hat := HAT.out
  go_enter Tryz.func96, Tryz.ntmps96
  go_wp2_with (first
    | (go_at_call 135
       have hh := l01Digit_any w 53 (by decide)
       refine hh.mono ?_
       rintro e w' ⟨rfl, rfl⟩
       clear hh))
  refine bodyPost_ret (v := .tuple #[.slice (some ⟨w.heap.size, 0, none⟩) 1 1, .int .i64 ((at_ : Int) + 1), .bool true]) (by simp [results, Tryz.results96, go_sem]) rfl ?_
  exact ⟨_, _, by simp [Ex.rn, Ex.els], lit_elG w 1 5, below_new _ _⟩
set_option maxHeartbeats 8000000 in
set_option maxRecDepth 100000 in
theorem readExprY_u3 (a : Ex) (ih : ∀ (w : World) (s : ByteArray) (at_ : Nat) (d : Int), BsAt s at_ a.rn → (a.deep : Int) ≤ d → d ≤ 1000 → at_ + a.rn.length ≤ 100000 → Calls Tryz.prog 96 #[.string s, .int .i64 (at_ : Int), .int .i64 d] w (RxQ w a (at_ + a.rn.length))) : ∀ (w : World) (s : ByteArray) (at_ : Nat) (d : Int), BsAt s at_ (Ex.un (3, 0) a).rn → ((Ex.un (3, 0) a).deep : Int) ≤ d → d ≤ 1000 → at_ + (Ex.un (3, 0) a).rn.length ≤ 100000 → Calls Tryz.prog 96 #[.string s, .int .i64 (at_ : Int), .int .i64 d] w (RxQ w (Ex.un (3, 0) a) (at_ + (Ex.un (3, 0) a).rn.length)) := by
  intro w s at_ d hb hd hd2 hat
  obtain ⟨h1, hc0⟩ := hb 0 104 rfl at_ (by omega)
  have HBY := Lib.hid hb
  have HDD : Hid (1 ≤ d ∧ d ≤ 1000) := Lib.hid (by simp only [Ex.deep] at hd; omega)
  have HD := Lib.hid hd
  have HAT := Lib.hid hat
  have hd0 : (d == 0) = false := by rw [beq_eq_false_iff_ne]; have := HDD.out; omega
  have hlt : (at_ : Int) < (s.size : Int) := by omega
  have h0 : (0 : Int) ≤ (at_ : Int) := by omega
  clear hb hd hat
  have HI := Lib.hid (ih w s (at_ + 1) (d - 1) (fun i c hi j hj => HBY.out (i + 1) c (by simpa [Ex.rn, uf] using hi) j (by omega)) (by have h9 := HD.out; simp only [Ex.deep] at h9; omega) (by have := HDD.out; omega) (by have h9 := HAT.out; simp only [Ex.rn, uf, List.length_cons] at h9; omega))
  obtain ⟨m, hm⟩ : ∃ m, m = at_ + 1 + a.rn.length := ⟨_, rfl⟩
  rw [← hm, show ((at_ + 1 : Nat) : Int) = (at_ : Int) + 1 by omega] at HI
  have HM : Hid (m = at_ + (Ex.un (3, 0) a).rn.length) := Lib.hid (by rw [hm]; simp only [Ex.rn, uf, List.length_cons]; omega)
  have HAL : Hid (a.els.length ≤ 1000000) := Lib.hid (by have h7 := a.els_rn; have h9 := HAT.out; simp only [Ex.rn, uf, List.length_cons] at h9; omega)
  have hat := HAT.out
  have hdd := HDD.out
  clear ih hm
  go_enter Tryz.func96, Tryz.ntmps96
  go_wp2_with (first
    | (go_at_call 135
       have hh := l01Digit_any w 104 (by decide)
       refine hh.mono ?_
       rintro e w' ⟨rfl, rfl⟩
       clear hh)
    | (go_at_call 96
       refine HI.out.mono ?_
       rintro e w2 ⟨A2, c2, rfl, ho, hb2⟩
       have HO2 := Lib.hid ho; have HB2 := Lib.hid hb2
       clear ho hb2)
    | (at_builtin; go_must (refine wpList_appSN eltEl rfl _ _ rfl (w2.alloc (.cells #[.int .i64 3, .int .i64 0] 110)) w2.heap.size (.slice (some ⟨w2.heap.size, 0, none⟩) 1 1) 1 (ints (eNums [(3, 0)])) (by rfl) (lit_el w2 3) A2 a.els.length c2 (ints (eNums a.els)) (by rfl) ((ownN_rd HO2.out).alloc _) (ints_one1 _) (by simp) (by have := HAL.out; omega) ?_); rintro A3 c3 w3 ho3 hb3 hg3
       have HO3 := Lib.hid ho3
       have HB3 : Hid (Below w.heap.size w w3) := Lib.hid (bqcP (hb3 |> fun h => (below_new w2 (.cells #[.int .i64 3, .int .i64 0] 110)).trans h) HB2.out)
       clear ho3 hb3 hg3))
  refine bodyPost_ret (v := .tuple #[.slice A3 (1 + a.els.length) c3, .int .i64 (m : Int), .bool true]) (by simp [results, Tryz.results96, go_sem]) rfl ?_
  have e1 : (1 + a.els.length) = (Ex.un (3, 0) a).els.length := by simp only [Ex.els, List.length_cons]; omega
  have h6 := HO3.out
  rw [app_nums'] at h6
  rw [e1] at h6 ⊢
  exact ⟨A3, c3, by rw [HM.out], ownN_base h6 HB2.out.size, HB3.out⟩
set_option maxHeartbeats 8000000 in
set_option maxRecDepth 100000 in
theorem readExprY_u4 (a : Ex) (ih : ∀ (w : World) (s : ByteArray) (at_ : Nat) (d : Int), BsAt s at_ a.rn → (a.deep : Int) ≤ d → d ≤ 1000 → at_ + a.rn.length ≤ 100000 → Calls Tryz.prog 96 #[.string s, .int .i64 (at_ : Int), .int .i64 d] w (RxQ w a (at_ + a.rn.length))) : ∀ (w : World) (s : ByteArray) (at_ : Nat) (d : Int), BsAt s at_ (Ex.un (4, 0) a).rn → ((Ex.un (4, 0) a).deep : Int) ≤ d → d ≤ 1000 → at_ + (Ex.un (4, 0) a).rn.length ≤ 100000 → Calls Tryz.prog 96 #[.string s, .int .i64 (at_ : Int), .int .i64 d] w (RxQ w (Ex.un (4, 0) a) (at_ + (Ex.un (4, 0) a).rn.length)) := by
  intro w s at_ d hb hd hd2 hat
  obtain ⟨h1, hc0⟩ := hb 0 116 rfl at_ (by omega)
  have HBY := Lib.hid hb
  have HDD : Hid (1 ≤ d ∧ d ≤ 1000) := Lib.hid (by simp only [Ex.deep] at hd; omega)
  have HD := Lib.hid hd
  have HAT := Lib.hid hat
  have hd0 : (d == 0) = false := by rw [beq_eq_false_iff_ne]; have := HDD.out; omega
  have hlt : (at_ : Int) < (s.size : Int) := by omega
  have h0 : (0 : Int) ≤ (at_ : Int) := by omega
  clear hb hd hat
  have HI := Lib.hid (ih w s (at_ + 1) (d - 1) (fun i c hi j hj => HBY.out (i + 1) c (by simpa [Ex.rn, uf] using hi) j (by omega)) (by have h9 := HD.out; simp only [Ex.deep] at h9; omega) (by have := HDD.out; omega) (by have h9 := HAT.out; simp only [Ex.rn, uf, List.length_cons] at h9; omega))
  obtain ⟨m, hm⟩ : ∃ m, m = at_ + 1 + a.rn.length := ⟨_, rfl⟩
  rw [← hm, show ((at_ + 1 : Nat) : Int) = (at_ : Int) + 1 by omega] at HI
  have HM : Hid (m = at_ + (Ex.un (4, 0) a).rn.length) := Lib.hid (by rw [hm]; simp only [Ex.rn, uf, List.length_cons]; omega)
  have HAL : Hid (a.els.length ≤ 1000000) := Lib.hid (by have h7 := a.els_rn; have h9 := HAT.out; simp only [Ex.rn, uf, List.length_cons] at h9; omega)
  have hat := HAT.out
  have hdd := HDD.out
  clear ih hm
  go_enter Tryz.func96, Tryz.ntmps96
  go_wp2_with (first
    | (go_at_call 135
       have hh := l01Digit_any w 116 (by decide)
       refine hh.mono ?_
       rintro e w' ⟨rfl, rfl⟩
       clear hh)
    | (go_at_call 96
       refine HI.out.mono ?_
       rintro e w2 ⟨A2, c2, rfl, ho, hb2⟩
       have HO2 := Lib.hid ho; have HB2 := Lib.hid hb2
       clear ho hb2)
    | (at_builtin; go_must (refine wpList_appSN eltEl rfl _ _ rfl (w2.alloc (.cells #[.int .i64 4, .int .i64 0] 110)) w2.heap.size (.slice (some ⟨w2.heap.size, 0, none⟩) 1 1) 1 (ints (eNums [(4, 0)])) (by rfl) (lit_el w2 4) A2 a.els.length c2 (ints (eNums a.els)) (by rfl) ((ownN_rd HO2.out).alloc _) (ints_one1 _) (by simp) (by have := HAL.out; omega) ?_); rintro A3 c3 w3 ho3 hb3 hg3
       have HO3 := Lib.hid ho3
       have HB3 : Hid (Below w.heap.size w w3) := Lib.hid (bqcP (hb3 |> fun h => (below_new w2 (.cells #[.int .i64 4, .int .i64 0] 110)).trans h) HB2.out)
       clear ho3 hb3 hg3))
  refine bodyPost_ret (v := .tuple #[.slice A3 (1 + a.els.length) c3, .int .i64 (m : Int), .bool true]) (by simp [results, Tryz.results96, go_sem]) rfl ?_
  have e1 : (1 + a.els.length) = (Ex.un (4, 0) a).els.length := by simp only [Ex.els, List.length_cons]; omega
  have h6 := HO3.out
  rw [app_nums'] at h6
  rw [e1] at h6 ⊢
  exact ⟨A3, c3, by rw [HM.out], ownN_base h6 HB2.out.size, HB3.out⟩
set_option maxHeartbeats 8000000 in
set_option maxRecDepth 100000 in
theorem readExprY_b2 (a b : Ex) (iha : ∀ (w : World) (s : ByteArray) (at_ : Nat) (d : Int), BsAt s at_ a.rn → (a.deep : Int) ≤ d → d ≤ 1000 → at_ + a.rn.length ≤ 100000 → Calls Tryz.prog 96 #[.string s, .int .i64 (at_ : Int), .int .i64 d] w (RxQ w a (at_ + a.rn.length))) (ihb : ∀ (w : World) (s : ByteArray) (at_ : Nat) (d : Int), BsAt s at_ b.rn → (b.deep : Int) ≤ d → d ≤ 1000 → at_ + b.rn.length ≤ 100000 → Calls Tryz.prog 96 #[.string s, .int .i64 (at_ : Int), .int .i64 d] w (RxQ w b (at_ + b.rn.length))) : ∀ (w : World) (s : ByteArray) (at_ : Nat) (d : Int), BsAt s at_ (Ex.bin (2, 0) a b).rn → ((Ex.bin (2, 0) a b).deep : Int) ≤ d → d ≤ 1000 → at_ + (Ex.bin (2, 0) a b).rn.length ≤ 100000 → Calls Tryz.prog 96 #[.string s, .int .i64 (at_ : Int), .int .i64 d] w (RxQ w (Ex.bin (2, 0) a b) (at_ + (Ex.bin (2, 0) a b).rn.length)) := by
  intro w s at_ d hb hd hd2 hat
  obtain ⟨h1, hc0⟩ := hb 0 40 rfl at_ (by omega)
  have HBY := Lib.hid hb
  have HDD : Hid (1 ≤ d ∧ d ≤ 1000) := Lib.hid (by simp only [Ex.deep] at hd; omega)
  have HD := Lib.hid hd
  have HAT := Lib.hid hat
  have hd0 : (d == 0) = false := by rw [beq_eq_false_iff_ne]; have := HDD.out; omega
  have hlt : (at_ : Int) < (s.size : Int) := by omega
  have h0 : (0 : Int) ≤ (at_ : Int) := by omega
  clear hb hd hat
  have HIA := Lib.hid (iha w s (at_ + 1) (d - 1) (fun i c hi j hj => HBY.out (i + 1) c (by have h9 := (List.getElem?_eq_some_iff.1 hi).1; simp only [Ex.rn, List.getElem?_cons_succ]; rw [List.getElem?_append_left h9]; exact hi) j (by omega)) (by have h9 := HD.out; simp only [Ex.deep] at h9; omega) (by have := HDD.out; omega) (by have h9 := HAT.out; simp only [Ex.rn, List.length_cons, List.length_append] at h9; omega))
  obtain ⟨m, hm⟩ : ∃ m, m = at_ + 1 + a.rn.length := ⟨_, rfl⟩
  obtain ⟨hm1, hmc⟩ := HBY.out (1 + a.rn.length) 46 (by simp only [Ex.rn, sf]; rw [Nat.add_comm, List.getElem?_cons_succ, List.getElem?_append_right (Nat.le_refl _), Nat.sub_self]; rfl) m (by omega)
  have HIB := Lib.hid (fun (w2 : World) => ihb w2 s (m + 1) (d - 1) (fun i c hi j hj => HBY.out (1 + (a.rn.length + (1 + i))) c (by have h9 := (List.getElem?_eq_some_iff.1 hi).1; simp only [Ex.rn, sf]; rw [Nat.add_comm, List.getElem?_cons_succ, List.getElem?_append_right (by omega), Nat.add_sub_cancel_left, Nat.add_comm 1 i, List.getElem?_cons_succ, List.getElem?_append_left h9]; exact hi) j (by omega)) (by have h9 := HD.out; simp only [Ex.deep] at h9; omega) (by have := HDD.out; omega) (by have h9 := HAT.out; simp only [Ex.rn, List.length_cons, List.length_append] at h9; omega))
  obtain ⟨q, hq⟩ : ∃ q, q = m + 1 + b.rn.length := ⟨_, rfl⟩
  obtain ⟨hq1, hqc⟩ := HBY.out (1 + (a.rn.length + (1 + b.rn.length))) 41 (by simp only [Ex.rn, sf]; rw [Nat.add_comm, List.getElem?_cons_succ, List.getElem?_append_right (by omega), Nat.add_sub_cancel_left, Nat.add_comm 1, List.getElem?_cons_succ, List.getElem?_append_right (Nat.le_refl _), Nat.sub_self]; rfl) q (by omega)
  rw [← hm, show ((at_ + 1 : Nat) : Int) = (at_ : Int) + 1 by omega] at HIA
  rw [← hq, show ((m + 1 : Nat) : Int) = (m : Int) + 1 by omega] at HIB
  have HQ : Hid (q + 1 = at_ + (Ex.bin (2, 0) a b).rn.length) := Lib.hid (by rw [hq, hm]; simp only [Ex.rn, List.length_cons, List.length_append, List.length_nil]; omega)
  have hq9 : q ≤ 100000 := by have h8 := HQ.out; have h9 := HAT.out; omega
  have hm9 : m ≤ 100000 := by omega
  have HAL : Hid (a.els.length ≤ 100000 ∧ b.els.length ≤ 100000) := Lib.hid (by have h7 := a.els_rn; have h8 := b.els_rn; omega)
  have hlm : (m : Int) < (s.size : Int) := by omega
  have hlq : (q : Int) < (s.size : Int) := by omega
  have h0m : (0 : Int) ≤ (m : Int) := by omega
  have hat := HAT.out
  have hdd := HDD.out
  have hgm : ¬ (s.size ≤ m) := by omega
  have hgq : ¬ (s.size ≤ q) := by omega
  clear iha ihb hm hq
  go_enter Tryz.func96, Tryz.ntmps96
  go_upto_region 17 with (first
    | (go_at_call 135
       have hh := l01Digit_any w 40 (by decide)
       refine hh.mono ?_
       rintro e w' ⟨rfl, rfl⟩
       clear hh)
    | (go_at_call 96
       refine HIA.out.mono ?_
       rintro e w2 ⟨A2, c2, rfl, ho, hb2⟩
       have HO2 := Lib.hid ho; have HB2 := Lib.hid hb2
       have HIB2 := Lib.hid (HIB.out w2)
       clear ho hb2))
  go_upto_region 23 with (go_at_call 96
                          refine HIB2.out.mono ?_
                          rintro e w3 ⟨A3, c3, rfl, ho, hb3⟩
                          have HO3 := Lib.hid ho
                          have HP3 := Lib.hid (ownN_below HO2.out hb3 (Nat.le_refl _))
                          have HB3 : Hid (Below w.heap.size w w3) := Lib.hid (bqcP hb3 HB2.out)
                          clear ho hb3)
  go_upto_region 26 with (at_builtin; go_must (refine wpList_appSN eltEl rfl _ _ rfl (w3.alloc (.cells #[.int .i64 2, .int .i64 0] 110)) w3.heap.size (.slice (some ⟨w3.heap.size, 0, none⟩) 1 1) 1 (ints (eNums [(2, 0)])) (by rfl) (lit_el w3 2) A2 a.els.length c2 (ints (eNums a.els)) (by rfl) ((ownN_rd HP3.out).alloc _) (ints_one1 _) (by simp) (by have := HAL.out; omega) ?_); rintro A4 c4 w4 ho4 hb4 hg4
                          have HO4 := Lib.hid ho4
                          have HB34 : Hid (Below w3.heap.size w3 w4) := Lib.hid ((below_new w3 (.cells #[.int .i64 2, .int .i64 0] 110)).trans hb4)
                          have HQ4 := Lib.hid (ownN_rd (ownN_below HO3.out HB34.out (Nat.le_refl _)))
                          have HB4 : Hid (Below w.heap.size w w4) := Lib.hid (bqcP HB34.out HB3.out)
                          clear ho4 hb4 hg4)
  go_wp2_with (at_builtin; go_must (refine wpList_appSN eltEl rfl _ _ rfl w4 w3.heap.size (.slice A4 (1 + a.els.length) c4) (1 + a.els.length) _ (by rfl) HO4.out A3 b.els.length c3 (ints (eNums b.els)) (by rfl) HQ4.out (ints_one1 _) HB34.out.size (by have := HAL.out; omega) ?_); rintro A5 c5 w5 ho5 hb5 hg5
               have HO5 := Lib.hid ho5
               have HB5 : Hid (Below w.heap.size w w5) := Lib.hid (bqcP (HB34.out.trans hb5) HB3.out)
               clear ho5 hb5 hg5)
  refine bodyPost_ret (v := .tuple #[.slice A5 (1 + a.els.length + b.els.length) c5, .int .i64 ((q : Int) + 1), .bool true]) (by simp [results, Tryz.results96, go_sem]) rfl ?_
  have e1 : (1 + a.els.length + b.els.length) = (Ex.bin (2, 0) a b).els.length := by simp only [Ex.els, List.length_cons, List.length_append]; omega
  have h6 := HO5.out
  rw [app_nums', app_nums'] at h6
  rw [e1] at h6 ⊢
  exact ⟨A5, c5, by rw [← HQ.out]; simp, ownN_base h6 HB3.out.size, HB5.out⟩
set_option maxHeartbeats 8000000 in
set_option maxRecDepth 100000 in
theorem readExprY_b5 (a b : Ex) (iha : ∀ (w : World) (s : ByteArray) (at_ : Nat) (d : Int), BsAt s at_ a.rn → (a.deep : Int) ≤ d → d ≤ 1000 → at_ + a.rn.length ≤ 100000 → Calls Tryz.prog 96 #[.string s, .int .i64 (at_ : Int), .int .i64 d] w (RxQ w a (at_ + a.rn.length))) (ihb : ∀ (w : World) (s : ByteArray) (at_ : Nat) (d : Int), BsAt s at_ b.rn → (b.deep : Int) ≤ d → d ≤ 1000 → at_ + b.rn.length ≤ 100000 → Calls Tryz.prog 96 #[.string s, .int .i64 (at_ : Int), .int .i64 d] w (RxQ w b (at_ + b.rn.length))) : ∀ (w : World) (s : ByteArray) (at_ : Nat) (d : Int), BsAt s at_ (Ex.bin (5, 0) a b).rn → ((Ex.bin (5, 0) a b).deep : Int) ≤ d → d ≤ 1000 → at_ + (Ex.bin (5, 0) a b).rn.length ≤ 100000 → Calls Tryz.prog 96 #[.string s, .int .i64 (at_ : Int), .int .i64 d] w (RxQ w (Ex.bin (5, 0) a b) (at_ + (Ex.bin (5, 0) a b).rn.length)) := by
  intro w s at_ d hb hd hd2 hat
  obtain ⟨h1, hc0⟩ := hb 0 40 rfl at_ (by omega)
  have HBY := Lib.hid hb
  have HDD : Hid (1 ≤ d ∧ d ≤ 1000) := Lib.hid (by simp only [Ex.deep] at hd; omega)
  have HD := Lib.hid hd
  have HAT := Lib.hid hat
  have hd0 : (d == 0) = false := by rw [beq_eq_false_iff_ne]; have := HDD.out; omega
  have hlt : (at_ : Int) < (s.size : Int) := by omega
  have h0 : (0 : Int) ≤ (at_ : Int) := by omega
  clear hb hd hat
  have HIA := Lib.hid (iha w s (at_ + 1) (d - 1) (fun i c hi j hj => HBY.out (i + 1) c (by have h9 := (List.getElem?_eq_some_iff.1 hi).1; simp only [Ex.rn, List.getElem?_cons_succ]; rw [List.getElem?_append_left h9]; exact hi) j (by omega)) (by have h9 := HD.out; simp only [Ex.deep] at h9; omega) (by have := HDD.out; omega) (by have h9 := HAT.out; simp only [Ex.rn, List.length_cons, List.length_append] at h9; omega))
  obtain ⟨m, hm⟩ : ∃ m, m = at_ + 1 + a.rn.length := ⟨_, rfl⟩
  obtain ⟨hm1, hmc⟩ := HBY.out (1 + a.rn.length) 63 (by simp only [Ex.rn, sf]; rw [Nat.add_comm, List.getElem?_cons_succ, List.getElem?_append_right (Nat.le_refl _), Nat.sub_self]; rfl) m (by omega)
  have HIB := Lib.hid (fun (w2 : World) => ihb w2 s (m + 1) (d - 1) (fun i c hi j hj => HBY.out (1 + (a.rn.length + (1 + i))) c (by have h9 := (List.getElem?_eq_some_iff.1 hi).1; simp only [Ex.rn, sf]; rw [Nat.add_comm, List.getElem?_cons_succ, List.getElem?_append_right (by omega), Nat.add_sub_cancel_left, Nat.add_comm 1 i, List.getElem?_cons_succ, List.getElem?_append_left h9]; exact hi) j (by omega)) (by have h9 := HD.out; simp only [Ex.deep] at h9; omega) (by have := HDD.out; omega) (by have h9 := HAT.out; simp only [Ex.rn, List.length_cons, List.length_append] at h9; omega))
  obtain ⟨q, hq⟩ : ∃ q, q = m + 1 + b.rn.length := ⟨_, rfl⟩
  obtain ⟨hq1, hqc⟩ := HBY.out (1 + (a.rn.length + (1 + b.rn.length))) 41 (by simp only [Ex.rn, sf]; rw [Nat.add_comm, List.getElem?_cons_succ, List.getElem?_append_right (by omega), Nat.add_sub_cancel_left, Nat.add_comm 1, List.getElem?_cons_succ, List.getElem?_append_right (Nat.le_refl _), Nat.sub_self]; rfl) q (by omega)
  rw [← hm, show ((at_ + 1 : Nat) : Int) = (at_ : Int) + 1 by omega] at HIA
  rw [← hq, show ((m + 1 : Nat) : Int) = (m : Int) + 1 by omega] at HIB
  have HQ : Hid (q + 1 = at_ + (Ex.bin (5, 0) a b).rn.length) := Lib.hid (by rw [hq, hm]; simp only [Ex.rn, List.length_cons, List.length_append, List.length_nil]; omega)
  have hq9 : q ≤ 100000 := by have h8 := HQ.out; have h9 := HAT.out; omega
  have hm9 : m ≤ 100000 := by omega
  have HAL : Hid (a.els.length ≤ 100000 ∧ b.els.length ≤ 100000) := Lib.hid (by have h7 := a.els_rn; have h8 := b.els_rn; omega)
  have hlm : (m : Int) < (s.size : Int) := by omega
  have hlq : (q : Int) < (s.size : Int) := by omega
  have h0m : (0 : Int) ≤ (m : Int) := by omega
  have hat := HAT.out
  have hdd := HDD.out
  have hgm : ¬ (s.size ≤ m) := by omega
  have hgq : ¬ (s.size ≤ q) := by omega
  clear iha ihb hm hq
  go_enter Tryz.func96, Tryz.ntmps96
  go_upto_region 17 with (first
    | (go_at_call 135
       have hh := l01Digit_any w 40 (by decide)
       refine hh.mono ?_
       rintro e w' ⟨rfl, rfl⟩
       clear hh)
    | (go_at_call 96
       refine HIA.out.mono ?_
       rintro e w2 ⟨A2, c2, rfl, ho, hb2⟩
       have HO2 := Lib.hid ho; have HB2 := Lib.hid hb2
       have HIB2 := Lib.hid (HIB.out w2)
       clear ho hb2))
  go_upto_region 23 with (go_at_call 96
                          refine HIB2.out.mono ?_
                          rintro e w3 ⟨A3, c3, rfl, ho, hb3⟩
                          have HO3 := Lib.hid ho
                          have HP3 := Lib.hid (ownN_below HO2.out hb3 (Nat.le_refl _))
                          have HB3 : Hid (Below w.heap.size w w3) := Lib.hid (bqcP hb3 HB2.out)
                          clear ho hb3)
  go_upto_region 26 with (at_builtin; go_must (refine wpList_appSN eltEl rfl _ _ rfl (w3.alloc (.cells #[.int .i64 5, .int .i64 0] 110)) w3.heap.size (.slice (some ⟨w3.heap.size, 0, none⟩) 1 1) 1 (ints (eNums [(5, 0)])) (by rfl) (lit_el w3 5) A2 a.els.length c2 (ints (eNums a.els)) (by rfl) ((ownN_rd HP3.out).alloc _) (ints_one1 _) (by simp) (by have := HAL.out; omega) ?_); rintro A4 c4 w4 ho4 hb4 hg4
                          have HO4 := Lib.hid ho4
                          have HB34 : Hid (Below w3.heap.size w3 w4) := Lib.hid ((below_new w3 (.cells #[.int .i64 5, .int .i64 0] 110)).trans hb4)
                          have HQ4 := Lib.hid (ownN_rd (ownN_below HO3.out HB34.out (Nat.le_refl _)))
                          have HB4 : Hid (Below w.heap.size w w4) := Lib.hid (bqcP HB34.out HB3.out)
                          clear ho4 hb4 hg4)
  go_wp2_with (at_builtin; go_must (refine wpList_appSN eltEl rfl _ _ rfl w4 w3.heap.size (.slice A4 (1 + a.els.length) c4) (1 + a.els.length) _ (by rfl) HO4.out A3 b.els.length c3 (ints (eNums b.els)) (by rfl) HQ4.out (ints_one1 _) HB34.out.size (by have := HAL.out; omega) ?_); rintro A5 c5 w5 ho5 hb5 hg5
               have HO5 := Lib.hid ho5
               have HB5 : Hid (Below w.heap.size w w5) := Lib.hid (bqcP (HB34.out.trans hb5) HB3.out)
               clear ho5 hb5 hg5)
  refine bodyPost_ret (v := .tuple #[.slice A5 (1 + a.els.length + b.els.length) c5, .int .i64 ((q : Int) + 1), .bool true]) (by simp [results, Tryz.results96, go_sem]) rfl ?_
  have e1 : (1 + a.els.length + b.els.length) = (Ex.bin (5, 0) a b).els.length := by simp only [Ex.els, List.length_cons, List.length_append]; omega
  have h6 := HO5.out
  rw [app_nums', app_nums'] at h6
  rw [e1] at h6 ⊢
  exact ⟨A5, c5, by rw [← HQ.out]; simp, ownN_base h6 HB3.out.size, HB5.out⟩
theorem readExprY_any : ∀ (x : Ex), x.ok → ∀ (w : World) (s : ByteArray) (at_ : Nat) (d : Int), BsAt s at_ x.rn → (x.deep : Int) ≤ d → d ≤ 1000 → at_ + x.rn.length ≤ 100000 → Calls Tryz.prog 96 #[.string s, .int .i64 (at_ : Int), .int .i64 d] w (RxQ w x (at_ + x.rn.length))
  | .leaf x, h => by
    rcases h with rfl | ⟨d, hd, rfl⟩
    · exact readExprY_n
    · match d, hd with
      | 0, _ => exact readExprY_v0
      | 1, _ => exact readExprY_v1
      | 2, _ => exact readExprY_v2
      | 3, _ => exact readExprY_v3
      | 4, _ => exact readExprY_v4
      | 5, _ => exact readExprY_v5
  | .un x a, h => by
    obtain ⟨h1, h2⟩ := h
    rcases h1 with rfl | rfl
    · exact readExprY_u3 a (readExprY_any a h2)
    · exact readExprY_u4 a (readExprY_any a h2)
  | .bin x a b, h => by
    obtain ⟨h1, h2, h3⟩ := h
    rcases h1 with rfl | rfl
    · exact readExprY_b2 a b (readExprY_any a h2) (readExprY_any b h3)
    · exact readExprY_b5 a b (readExprY_any a h2) (readExprY_any b h3)
end Go.Proofs.YtadmbphefpfbmaaGreatDoor
