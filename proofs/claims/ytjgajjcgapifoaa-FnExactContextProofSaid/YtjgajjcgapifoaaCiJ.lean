/- ContextsIn: the program's answer. -/
import Derived.Test.YtjgajjcgapifoaaCiM
import Derived.Test.YtjgajjcgapifoaaPrfP
namespace Go.Proofs.Ytjgajjcgapifoaa
open Go.RowKit
set_option linter.unusedVariables false
set_option linter.unusedSimpArgs false
theorem tot_bd {l : List (List Int)} {b : Nat} (h : ∀ x ∈ l, x.length ≤ b) : tot l ≤ l.length * b := by
  induction l with
  | nil => simp [tot]
  | cons y r ih =>
    simp only [tot, List.length_cons]
    have h1 := h y (by simp)
    have h2 := ih (fun x hx => h x (by simp [hx]))
    rw [Nat.add_mul]
    omega
theorem words_bd {ws vs : List (List Int)} (h : ws.all wordB = true) (hl : ws.length ≤ 300) (hs : ∀ x ∈ vs, x ∈ ws) (hv : vs.length ≤ ws.length) : tot vs ≤ 1000000 ∧ vs.length ≤ 1000000 := by
  have h1 : ∀ x ∈ vs, x.length ≤ 400 := fun x hx => by
    have h2 := List.all_eq_true.1 h x (hs x hx)
    simp only [wordB, Bool.and_eq_true, decide_eq_true_eq] at h2
    exact h2.2
  have h3 := tot_bd h1
  constructor
  · have h4 : vs.length * 400 ≤ 300 * 400 := Nat.mul_le_mul_right _ (by omega)
    omega
  · omega
theorem csC_zero {k : Int} {ns : List Int} {ws : List (List Int)} (h : csC k ns ws = 0) : okP k ns ws = true ∧ csOk k ns ws = true := by
  have h1 : okP k ns ws = true := by cases h2 : okP k ns ws; rw [csC_bad h2] at h; cases h; rfl
  exact ⟨h1, by cases h2 : csOk k ns ws; rw [csC_no h1 h2] at h; cases h; rfl⟩
theorem ciR_b0 (k : Int) (ns : List Int) (ws : List (List Int)) : tot (ciR k ns ws).1 ≤ 1000000 ∧ (ciR k ns ws).1.length ≤ 1000000 := by
  unfold ciR
  split
  · rename_i h
    obtain ⟨_, _, hl, _, hw⟩ := okP_bd (csC_zero h).1
    exact words_bd hw hl (fun x hx => List.mem_of_mem_take hx) (by simp [lefts]; omega)
  · simp [tot]
theorem ciR_b1 (k : Int) (ns : List Int) (ws : List (List Int)) : tot (ciR k ns ws).2.1 ≤ 1000000 ∧ (ciR k ns ws).2.1.length ≤ 1000000 := by
  unfold ciR
  split
  · rename_i h
    obtain ⟨_, _, hl, _, hw⟩ := okP_bd (csC_zero h).1
    exact words_bd hw hl (fun x hx => List.mem_of_mem_drop (List.mem_of_mem_take hx)) (by simp [rights]; omega)
  · simp [tot]
theorem ciR_b2 (k : Int) (ns : List Int) (ws : List (List Int)) : tot (ciR k ns ws).2.2.1 ≤ 1000000 ∧ (ciR k ns ws).2.2.1.length ≤ 1000000 := by
  unfold ciR
  split
  · rename_i h
    obtain ⟨_, _, hl, _, hw⟩ := okP_bd (csC_zero h).1
    exact words_bd hw hl (fun x hx => List.mem_of_mem_drop hx) (by simp [ctxs])
  · simp [tot]
theorem ciR_b3 (k : Int) (ns : List Int) (ws : List (List Int)) : (ciR k ns ws).2.2.2.1.length ≤ 1000000 := by
  unfold ciR
  split
  · rename_i h
    obtain ⟨_, hl, _⟩ := okP_bd (csC_zero h).1
    simp; omega
  · simp
theorem stated_pos {sts : List Int} {cs : List (List Int)} {xs : List Int} (h : xs ∈ stated sts cs) : 1 ≤ xs.length := by
  obtain ⟨i, hi, he⟩ := List.mem_iff_getElem.1 h
  subst he
  simp [stated]
theorem own_types2 {w : World} {b1 b2 e1 e2 s1 s2 n1 n2 : Nat} {v1 v2 : Value} {us vs : List Value} (h : w.ownsRow b1 e1 s1 v1 n1 us) (h2 : w.ownsRow b2 e2 s2 v2 n2 vs) (hT : e1 ≠ e2) : ∀ k, Fo v1 k → Fo v2 k → False := by
  intro k a b
  rcases h.2 with ⟨rfl, _⟩ | ⟨g1, _, cs1, rfl, _, hg1, _⟩
  · simp [Fo, Value.ownBlock] at a
  · obtain rfl : g1 = k := by simpa [Fo, Value.ownBlock] using a
    rcases h2.2 with ⟨rfl, _⟩ | ⟨g2, _, cs2, rfl, _, hg2, _⟩
    · simp [Fo, Value.ownBlock] at b
    · obtain rfl : g2 = g1 := by simpa [Fo, Value.ownBlock] using b
      exact blk_ne hg1 hg2 hT rfl
theorem own_up2 {w : World} {base e s n B : Nat} {v : Value} {vs : List Value} (h : w.ownsRow base e s v n vs) (hB : ∀ k, Fo v k → B ≤ k) : w.ownsRow B e s v n vs := by
  refine ⟨h.1, ?_⟩
  rcases h.2 with h0 | ⟨g, c, cs, rfl, h2, h3⟩
  · exact .inl h0
  · exact .inr ⟨g, c, cs, rfl, hB g (by simp [Fo, Value.ownBlock]), h3⟩
theorem tmp_new (w : World) (y : Value) (T : Nat) : (w.alloc (.cells #[y] T)).ownsRow 0 T 1 (.slice (some ⟨w.heap.size, 0, none⟩) 1 1) 1 [y] := own_base (own_lit w #[y] 1 T rfl (by omega)) (Nat.zero_le _)
theorem own_drw {w : World} {base e s n : Nat} {v : Value} {vs : List Value} (h : w.ownsRow base e s v n vs) : w.drew.ownsRow base e s v n vs := h
theorem tmp1 (w : World) (y : Value) (T : Nat) : (w.alloc (.cells #[y] T)).drew.ownsRow 0 T 1 (.slice (some ⟨w.heap.size, 0, none⟩) 1 1) 1 [y] := own_drw (tmp_new w y T)
theorem tmp2a (w : World) (o : Obj) (y : Value) (T : Nat) : ((w.alloc o).alloc (.cells #[y] T)).drew.ownsRow 0 T 1 (.slice (some ⟨w.heap.size + 1, 0, none⟩) 1 1) 1 [y] := by
  have h := tmp_new (w.alloc o) y T
  rw [World.size_alloc] at h
  exact own_drw h
theorem tmp2b (w : World) (o : Obj) (y : Value) (T : Nat) : ((w.alloc (.cells #[y] T)).alloc o).drew.ownsRow 0 T 1 (.slice (some ⟨w.heap.size, 0, none⟩) 1 1) 1 [y] := own_drw (ownN_below (tmp_new w y T) (below_new _ _) (Nat.le_refl _))
/-- Two rows of different elements that grow, above w3's end. -/
structure Two (w3 w : World) (i : Nat) (A : Option Addr) (c : Nat) (la : List Value) (j : Nat) (B : Option Addr) (d : Nat) (lb : List Value) : Prop where
  a : w.ownsRow 0 25 1 (.slice A i c) i la
  b : w.ownsRow 0 2 1 (.slice B j d) j lb
  fa : ∀ q, Fo (.slice A i c) q → w3.heap.size ≤ q
  fb : ∀ q, Fo (.slice B j d) q → w3.heap.size ≤ q
  lo : Below w3.heap.size w3 w
section
variable {w3 w w' : World} {i j c d c' : Nat} {A B A' : Option Addr} {la lb : List Value} {u : Value}
theorem Two.drew (h : Two w3 w i A c la j B d lb) : Two w3 w.drew i A c la j B d lb := ⟨h.a, h.b, h.fa, h.fb, below_drew1 h.lo⟩
theorem Two.alloc (h : Two w3 w i A c la j B d lb) {o : Obj} : Two w3 (w.alloc o) i A c la j B d lb := ⟨ownN_below h.a (below_new _ _) (Nat.le_refl _), ownN_below h.b (below_new _ _) (Nat.le_refl _), h.fa, h.fb, h.lo.alloc h.lo.size _⟩
theorem Two.stepA (h : Two w3 w i A c la j B d lb) (ho : w'.ownsRow 0 25 1 (.slice A' (i + 1) c') (i + 1) (la ++ [u])) (hc : Ch (Fo (.slice A i c)) w w') (hf : ∀ q, Fo (.slice A' (i + 1) c') q → Fo (.slice A i c) q ∨ w.heap.size ≤ q) : Two w3 w' (i + 1) A' c' (la ++ [u]) j B d lb :=
  ⟨ho, own_ch h.b hc (fun q a b => own_types2 h.a h.b (by decide) q b a), fun q hq => (hf q hq).elim (h.fa q) (fun h2 => Nat.le_trans h.lo.size h2), h.fb, below_ch h.lo hc h.fa h.lo.size⟩
theorem Two.stepB (h : Two w3 w i A c la j B d lb) (ho : w'.ownsRow 0 2 1 (.slice A' (j + 1) c') (j + 1) (lb ++ [u])) (hc : Ch (Fo (.slice B j d)) w w') (hf : ∀ q, Fo (.slice A' (j + 1) c') q → Fo (.slice B j d) q ∨ w.heap.size ≤ q) : Two w3 w' i A c la (j + 1) A' c' (lb ++ [u]) :=
  ⟨own_ch h.a hc (fun q a b => own_types2 h.a h.b (by decide) q a b), ho, h.fa, fun q hq => (hf q hq).elim (h.fb q) (fun h2 => Nat.le_trans h.lo.size h2), below_ch h.lo hc h.fb h.lo.size⟩
theorem Two.tempB (h : Two w3 w i A c la j B d lb) {v : Value} (ho : w.ownsRow 0 2 1 v 1 [u]) (hc : Ch (Fo (.slice A i c)) w w') : w'.ownsRow 0 2 1 v 1 [u] := own_ch ho hc (fun q a b => own_types2 h.a ho (by decide) q b a)
theorem Two.tempA (h : Two w3 w i A c la j B d lb) {v : Value} (ho : w.ownsRow 0 25 1 v 1 [u]) (hc : Ch (Fo (.slice B j d)) w w') : w'.ownsRow 0 25 1 v 1 [u] := own_ch ho hc (fun q a b => own_types2 ho h.b (by decide) q a b)
theorem tw_at {F : Nat → Prop} (hc : Ch F w w') (h : Two w3 w i A c la j B d lb) : Two w3 w i A c la j B d lb := h
theorem Two.cell (h : Two w3 w i A c la j B d lb) {p : Addr} (hp : p.block < w3.heap.size) {v : Value} (hv : w3.cell? p = some v) : w.cell? p = some v := (h.lo.cell hp).trans hv
end
set_option maxHeartbeats 16000000 in
set_option maxRecDepth 100000 in
theorem implContextsIn_any (w : World) (k : Int) (A1 : Option Addr) (n1 c1 : Nat) (ns : List Int) (hr1 : Rd w A1 n1 (ints ns)) (hn1 : n1 ≤ 1000000000) (hc1 : n1 ≤ c1) (A2 : Option Addr) (n2 c2 : Nat) (ws : List (List Int)) (hr2 : RdL w A2 n2 ws) (hn2 : n2 ≤ 1000000000) (hc2 : n2 ≤ c2) :
    Calls Try.prog 42 #[prfV k A1 n1 c1 A2 n2 c2] w (CiP w (ciR k ns ws)) := by
  obtain ⟨w0, hw0⟩ : ∃ w0, w0 = w.alloc (.cells #[.int .i64 k, .slice A1 n1 c1, .slice A2 n2 c2] 55) := ⟨_, rfl⟩
  have hB : Below w.heap.size w w0 := by rw [hw0]; exact below_new w _
  have hx0 : w0.heap[w.heap.size]? = some (.cells #[.int .i64 k, .slice A1 n1 c1, .slice A2 n2 c2] 55 (0, 0)) := by rw [hw0]; exact box_new w _ _
  have q0 := blk_cell hx0 0 rfl
  have q1 := blk_cell hx0 1 rfl
  have q2 := blk_cell hx0 2 rfl
  have HR1 := Lib.hid (hr1.below hB (Nat.le_refl _))
  have HR2 := Lib.hid (hr2.below hB (Nat.le_refl _))
  have HB := Lib.hid hB
  clear hB hx0
  by_cases hc : csC k ns ws = 0
  · have HC := Lib.hid hc
    obtain ⟨hok, hcs⟩ := csC_zero hc
    have HO := Lib.hid (ciR_ok hok hcs)
    have HLN : Hid ((ns.drop 3).length = (ctxs ns ws).length) := Lib.hid (by
      simp only [csOk, Bool.and_eq_true] at hcs
      obtain ⟨a, b, ha, hb, hab, hl⟩ := g2_bd hcs.1.1.2
      simp [ctxs, ha, hb]; omega)
    have HLC : Hid ((ctxs ns ws).length ≤ 300) := Lib.hid (by have h := (okP_bd hok).2.2.1; simp [ctxs]; omega)
    clear hc hok hcs
    go_enter Try.func42, Try.ntmps42
    go_upto_region 1 with fail
    rw [← hw0]
    clear hw0
    go_wp2_with fail
    refine (setsOf_any _ k A1 n1 c1 ns HR1.out hn1 hc1 A2 n2 c2 ws HR2.out hn2 hc2).mono ?_
    rw [HC.out]
    rintro e w2 ⟨m', A5, n5, c5, A6, n6, c6, A7, n7, c7, rfl, hb2, hpost⟩
    obtain ⟨hmm, F1, F2, F3, ho1, ho2, ho3, hF, d12, d13, d23⟩ := hpost rfl
    clear hmm hpost
    generalize lefts ns ws = ls at *
    generalize rights ns ws = rs at *
    generalize ctxs ns ws = cs at *
    generalize ns.drop 3 = sts at *
    have HB2 := Lib.hid (HB.out.trans (hb2.mono HB.out.size))
    go_upto_region 2 with fail
    obtain ⟨w3, hw3⟩ : ∃ w3, w3 = w2.alloc (.cells #[.int .i64 m', .slice A5 n5 c5, .slice A6 n6 c6, .slice A7 n7 c7] 106) := ⟨_, rfl⟩
    have hx3 : w3.heap[w2.heap.size]? = some (.cells #[.int .i64 m', .slice A5 n5 c5, .slice A6 n6 c6, .slice A7 n7 c7] 106 (0, 0)) := by rw [hw3]; exact box_new w2 _ _
    have h23 : Below w2.heap.size w2 w3 := by rw [hw3]; exact below_new w2 _
    have HB3 : Hid (Below w.heap.size w w3) := Lib.hid (HB2.out.trans (h23.mono HB2.out.size))
    have HO1 := Lib.hid (ho1.below h23); have HO2 := Lib.hid (ho2.below h23)
    have ho3' := ho3.below h23
    have HG1 : Hid (∀ q, F1 q ∨ F2 q ∨ F3 q → w.heap.size ≤ q ∧ q < w3.heap.size) := Lib.hid (fun q hq => by have h1 := hF q hq; have h2 := HB.out.size; have h3 := h23.size; omega)
    have HD := Lib.hid (And.intro d12 (And.intro d13 d23))
    have HN7 : Hid ((stated sts cs).length = n7) := Lib.hid ho3'.len
    have hn7 : n7 ≤ 1000000000 := by
      have h3 := HN7.out
      rw [stated_len HLN.out] at h3
      have h5 := HLC.out
      omega
    obtain ⟨us, hu1, hu2, hu3, hu4⟩ := ho3'
    have HU1 := Lib.hid hu1; have HU2 := Lib.hid hu2; have HU3 := Lib.hid hu3
    have hul : us.length = n7 := by simpa using hu1.1
    have HUL := Lib.hid hul
    have y3 := blk_cell hx3 3 rfl
    have HX3 := Lib.hid hx3
    rw [← hw3]
    clear hw3 hx3 ho1 ho2 ho3 hF h23 hb2 q0 q1 q2 hu1 hu2 hu3 hu4 d12 d13 d23 hul
    have AS1 := Lib.hid (ownN_below (own_base (own_lit w3 #[] 0 25 rfl (by omega)) (Nat.zero_le _)) (below_new (w3.alloc (.cells #[] 25)) (.cells #[] 2)) (Nat.le_refl _))
    have AS2 := Lib.hid (own_base (own_lit (w3.alloc (.cells #[] 25)) #[] 0 2 rfl (by omega)) (Nat.zero_le _))
    have AS5 := Lib.hid ((below_new w3 (.cells #[] 25)).trans ((below_new (w3.alloc (.cells #[] 25)) (.cells #[] 2)).mono (by simp)))
    have y3b := blk_cell (blk_bel HX3.out AS5.out) 3 rfl
    go_wp2_with fail
    go_loopw [9, 10, 26] (fun qa qs i wr => ∃ (j : Nat) (A3 : Option Addr) (c3 : Nat) (B3 : Option Addr) (d3 : Nat), j ≤ n7 ∧ i = .int .i64 j ∧ qa = .slice A3 j c3 ∧ qs = .slice B3 j d3 ∧ wr.ownsRow 0 25 1 (.slice A3 j c3) j ((us.take j).map tailV) ∧ wr.ownsRow 0 2 1 (.slice B3 j d3) j (ints (sts.take j)) ∧ (∀ q, Fo (.slice A3 j c3) q → w3.heap.size ≤ q) ∧ (∀ q, Fo (.slice B3 j d3) q → w3.heap.size ≤ q) ∧ Below w3.heap.size w3 wr) (fun _ _ i _ => n7 - (intOf i).toNat)
    case atStart => 
      refine ⟨0, _, _, _, _, by omega, rfl, rfl, rfl, ?_, ?_, ?_, ?_, ?_⟩
      · simpa using AS1.out
      · simpa using AS2.out
      · intro q hq; have h : w3.heap.size = q := by simpa [Fo, Value.ownBlock] using hq
        omega
      · intro q hq; have h : w3.heap.size + 1 = q := by simpa [Fo, Value.ownBlock] using hq
        omega
      · exact AS5.out
    case round =>
      obtain ⟨j, A3, c3, B3, d3, hj, rfl, rfl, rfl, hoa, hos, hfa, hfs, hb⟩ := hrel
      by_cases hlt : j < n7
      · have hlt' : (j : Int) < (n7 : Int) := by omega
        obtain ⟨u, hu⟩ := get_some (xs := us) (k := j) (by rw [HUL.out]; exact hlt)
        obtain ⟨r, hr⟩ := get_some (xs := cs) (k := j) (by have h1 := HN7.out; rw [stated_len HLN.out] at h1; omega)
        obtain ⟨x, hx⟩ := get_some (xs := sts) (k := j) (by have h1 := HN7.out; rw [stated_len HLN.out] at h1; have h2 := HLN.out; omega)
        obtain ⟨A', n', c', rfl, hn', ho', hb'⟩ := HU3.out.2.1 j u (x :: r) hu (stated_at hx hr)
        have hr' := own_rd ho'
        obtain ⟨bw, ow, rfl, hbw, q0⟩ := hr'.at_ (ints_get (xs := x :: r) (k := 0) (x := x) rfl)
        have hl' : n' = r.length + 1 := by have h1 := ho'.1; simp at h1; omega
        have hcap : n' ≤ c' := ownN_cap ho'
        obtain ⟨b, off, hA7, hbs, y0⟩ := (own_rd HU1.out).at_ hu
        subst hA7
        have hct : ∀ w, (Instr.slice 25 (.slice (some ⟨bw, ow, none⟩) n' c') (some (.int .i64 1)) none none).run Try.prog w = .ok (.slice (cutA (some ⟨bw, ow, none⟩) 1 c' 1) (n' - 1) (c' - 1)) w := fun w => run_cutF Try.underlying25 Try.szI w (some ⟨bw, ow, none⟩) n' c' 1 1 .i64 rfl (by omega)
        have HTV : Hid (tailV (.slice (some ⟨bw, ow, none⟩) n' c') = .slice (cutA (some ⟨bw, ow, none⟩) 1 c' 1) (n' - 1) (c' - 1)) := Lib.hid rfl
        generalize cutA (some ⟨bw, ow, none⟩) 1 c' 1 = At at *
        generalize n' - 1 = nt at *
        generalize c' - 1 = ct at *
        have HU1c : Hid (∀ u ∈ [Value.slice At nt ct], u.oneCell' = true) := Lib.hid (by simp [Value.oneCell'])
        have HU2c : Hid (∀ u ∈ [Value.int .i64 x], u.oneCell' = true) := Lib.hid (by simp [Value.oneCell'])
        have HJB : Hid (j + 1 ≤ 1099511627776) := Lib.hid (by omega)
        have HTA : Hid ((us.take (j + 1)).map tailV = (us.take j).map tailV ++ [.slice At nt ct]) := Lib.hid (by rw [List.take_add_one, hu, ← HTV.out]; simp)
        have HTS : Hid (ints (sts.take (j + 1)) = ints (sts.take j) ++ [.int .i64 x]) := Lib.hid (by rw [List.take_add_one, hx]; simp)
        replace y0 := (hb.cell (p := ⟨b, off + j, none⟩) hbs).trans y0
        have hbwr : bw < wr.heap.size := Nat.lt_of_lt_of_le hbw hb.size
        simp only [Nat.add_zero] at q0
        have Q0 := Lib.hid q0
        replace q0 := (hb.cell (p := ⟨bw, ow, none⟩) hbw).trans q0
        have q1 := cell_al q0 hbwr (o := .cells #[.slice At nt ct] 25)
        have HBW := Lib.hid hbw
        have hin : 0 < n' := by omega
        have hin' : (0 : Int) < (n' : Int) := by omega
        have HT : Hid (Two w3 wr j A3 c3 ((us.take j).map tailV) j B3 d3 (ints (sts.take j))) := Lib.hid ⟨hoa, hos, hfa, hfs, hb⟩
        clear hoa hos hfa hfs hb hu hr hx ho' hb' hr' hl' hbs hbw hbwr hcap
        go_wp2_with fail
        (first
          | (go_region_law (first
            | (have hq := HT6.out
               clear hq
               refine step_appO Try.eltS (by rfl) (.tmp 30) (.tmp 33) (by rfl) _ 0 A3 _ j c3 1 _ ((us.take j).map tailV) [.slice At nt ct] (by rfl) (by refine Two.a (w3 := w3) (i := j) (j := j + 1) (A := A3) (c := c3) (B := A6) (d := c6) (la := (us.take j).map tailV) (lb := ints (sts.take j) ++ [.int .i64 x]) ?_; repeat (first | with_reducible exact HT6.out | with_reducible refine Two.drew ?_ | with_reducible refine Two.alloc ?_)) (by rfl) (by refine own_rd (base := 0) (c := 1) (e := 25) ?_; first | with_reducible exact tmp_new _ _ _ | exact HTW6.out.tempA (by first | with_reducible exact tmp1 _ _ _ | with_reducible exact tmp2a _ _ _ _ | with_reducible exact tmp2b _ _ _ _ | with_reducible exact tmp_new _ _ _) HCH6.out) (by first | exact HU1c.out | exact HU2c.out) (by exact Nat.one_pos) (by exact HJB.out) ?_
               intro A5 c5 w7 ho5 hch5 hfo5
               have HT7 := Lib.hid (Two.stepA (w := _) (w3 := w3) (i := j) (j := j + 1) (A := A3) (c := c3) (B := A6) (d := c6) (la := (us.take j).map tailV) (lb := ints (sts.take j) ++ [.int .i64 x]) (by repeat (first | with_reducible exact HT6.out | with_reducible refine Two.drew ?_ | with_reducible refine Two.alloc ?_)) ho5 hch5 hfo5)
               clear ho5 hch5 hfo5)
            | (have hq := HT5.out
               clear hq
               refine step_appO Try.eltI (by rfl) (.tmp 35) (.tmp 39) (by rfl) _ 0 B3 _ j d3 1 _ (ints (sts.take j)) [.int .i64 x] (by rfl) (by refine Two.b (w3 := w3) (i := j + 1) (j := j) (A := A5) (c := c5) (B := B3) (d := d3) (la := (us.take j).map tailV ++ [.slice At nt ct]) (lb := ints (sts.take j)) ?_; repeat (first | with_reducible exact HT5.out | with_reducible refine Two.drew ?_ | with_reducible refine Two.alloc ?_)) (by rfl) (by refine own_rd (base := 0) (c := 1) (e := 2) ?_; first | with_reducible exact tmp_new _ _ _ | exact HTW5.out.tempB (by first | with_reducible exact tmp1 _ _ _ | with_reducible exact tmp2a _ _ _ _ | with_reducible exact tmp2b _ _ _ _ | with_reducible exact tmp_new _ _ _) HCH5.out) (by first | exact HU1c.out | exact HU2c.out) (by exact Nat.one_pos) (by exact HJB.out) ?_
               intro A6 c6 w7 ho6 hch6 hfo6
               have HT7 := Lib.hid (Two.stepB (w := _) (w3 := w3) (i := j + 1) (j := j) (A := A5) (c := c5) (B := B3) (d := d3) (la := (us.take j).map tailV ++ [.slice At nt ct]) (lb := ints (sts.take j)) (by repeat (first | with_reducible exact HT5.out | with_reducible refine Two.drew ?_ | with_reducible refine Two.alloc ?_)) ho6 hch6 hfo6)
               clear ho6 hch6 hfo6)
            | (refine step_appO Try.eltS (by rfl) (.tmp 30) (.tmp 33) (by rfl) _ 0 A3 _ j c3 1 _ ((us.take j).map tailV) [.slice At nt ct] (by rfl) (by refine Two.a (w3 := w3) (i := j) (j := j) (A := A3) (c := c3) (B := B3) (d := d3) (la := (us.take j).map tailV) (lb := ints (sts.take j)) ?_; repeat (first | with_reducible exact HT.out | with_reducible refine Two.drew ?_ | with_reducible refine Two.alloc ?_)) (by rfl) (by refine own_rd (base := 0) (c := 1) (e := 25) ?_; first | with_reducible exact tmp1 _ _ _ | with_reducible exact tmp2a _ _ _ _ | with_reducible exact tmp2b _ _ _ _ | with_reducible exact tmp_new _ _ _) (by first | exact HU1c.out | exact HU2c.out) (by exact Nat.one_pos) (by exact HJB.out) ?_
               intro A5 c5 w5 ho5 hch5 hfo5
               have HT5 := Lib.hid (Two.stepA (w := _) (w3 := w3) (i := j) (j := j) (A := A3) (c := c3) (B := B3) (d := d3) (la := (us.take j).map tailV) (lb := ints (sts.take j)) (by repeat (first | with_reducible exact HT.out | with_reducible refine Two.drew ?_ | with_reducible refine Two.alloc ?_)) ho5 hch5 hfo5)
               have HCH5 := Lib.hid hch5
               have HTW5 := Lib.hid (tw_at (w3 := w3) (i := j) (j := j) (A := A3) (c := c3) (B := B3) (d := d3) (la := (us.take j).map tailV) (lb := ints (sts.take j)) hch5 (by repeat (first | with_reducible exact HT.out | with_reducible refine Two.drew ?_ | with_reducible refine Two.alloc ?_)))
               have q5 := HT5.out.cell (p := ⟨bw, ow, none⟩) HBW.out Q0.out
               clear ho5 hch5 hfo5)
            | (refine step_appO Try.eltI (by rfl) (.tmp 35) (.tmp 39) (by rfl) _ 0 B3 _ j d3 1 _ (ints (sts.take j)) [.int .i64 x] (by rfl) (by refine Two.b (w3 := w3) (i := j) (j := j) (A := A3) (c := c3) (B := B3) (d := d3) (la := (us.take j).map tailV) (lb := ints (sts.take j)) ?_; repeat (first | with_reducible exact HT.out | with_reducible refine Two.drew ?_ | with_reducible refine Two.alloc ?_)) (by rfl) (by refine own_rd (base := 0) (c := 1) (e := 2) ?_; first | with_reducible exact tmp1 _ _ _ | with_reducible exact tmp2a _ _ _ _ | with_reducible exact tmp2b _ _ _ _ | with_reducible exact tmp_new _ _ _) (by first | exact HU1c.out | exact HU2c.out) (by exact Nat.one_pos) (by exact HJB.out) ?_
               intro A6 c6 w6 ho6 hch6 hfo6
               have HT6 := Lib.hid (Two.stepB (w := _) (w3 := w3) (i := j) (j := j) (A := A3) (c := c3) (B := B3) (d := d3) (la := (us.take j).map tailV) (lb := ints (sts.take j)) (by repeat (first | with_reducible exact HT.out | with_reducible refine Two.drew ?_ | with_reducible refine Two.alloc ?_)) ho6 hch6 hfo6)
               have HCH6 := Lib.hid hch6
               have HTW6 := Lib.hid (tw_at (w3 := w3) (i := j) (j := j) (A := A3) (c := c3) (B := B3) (d := d3) (la := (us.take j).map tailV) (lb := ints (sts.take j)) hch6 (by repeat (first | with_reducible exact HT.out | with_reducible refine Two.drew ?_ | with_reducible refine Two.alloc ?_)))
               have q6 := HT6.out.cell (p := ⟨bw, ow, none⟩) HBW.out Q0.out
               clear ho6 hch6 hfo6)
            ))
          | fail)
        all_goals
          go_wp2_with fail
          go_roundw
          case rel =>
            have h7 := HT7.out
            exact ⟨j + 1, A5, c5, A6, c6, by omega, by go_num, rfl, rfl, by rw [HTA.out]; exact h7.a, by rw [HTS.out]; exact h7.b, h7.fa, h7.fb, h7.lo⟩
          case measure => simp [intOf]; omega
      · obtain rfl : j = n7 := by omega
        have hxr := blk_bel HX3.out hb
        have y1 := blk_cell hxr 1 rfl
        have y2 := blk_cell hxr 2 rfl
        have HBR := Lib.hid hb
        have HA := Lib.hid hoa; have HS := Lib.hid hos; have HFA := Lib.hid hfa; have HFS := Lib.hid hfs
        clear hxr hb hoa hos hfa hfs
        go_wp2_with fail
        go_quiet (fail)
        go_wp2_with fail
        ((try simp only [Exit.inBlock, Exit.then]); refine bodyPost_ret (results_tmp5 rfl _ _ _) rfl ?_)
        have hz := HB3.out.trans (HBR.out.mono HB3.out.size)
        have hd : Below wr.heap.size wr (wr.drewN nq) := below_drewN (Below.refl _ _)
        obtain ⟨d12, d13, d23⟩ := HD.out
        rw [HO.out]
        have p1 := (HO1.out.below HBR.out).below hd
        have p2 := (HO2.out.below HBR.out).below hd
        have hs1 : us.take j = us := List.take_of_length_le (by rw [HUL.out]; omega)
        have hs2 : sts.take j = sts := List.take_of_length_le (by have h1 := HN7.out; rw [stated_len HLN.out] at h1; have h2 := HLN.out; omega)
        have hoa := HA.out
        have hos := HS.out
        rw [hs1] at hoa
        rw [hs2] at hos
        have hin := inner_tail (HU3.out.ch (ch_below (F := fun _ => False) (HBR.out.trans (hd.mono HBR.out.size))) (fun _ _ h => h)) (fun xs hxs => stated_pos hxs)
        rw [stated_tails HLN.out] at hin
        have hoa' := ownN_below hoa hd (Nat.le_refl _)
        have hos' := own_up2 (ownN_below hos hd (Nat.le_refl _)) (B := w.heap.size) (fun q hq => Nat.le_trans HB3.out.size (HFS.out q hq))
        have hlt3 : ∀ q, F3 q → q < w3.heap.size := fun q hq => (HG1.out q (.inr (.inr hq))).2
        refine ⟨A5, n5, c5, F1, A6, n6, c6, F2, A3, j, c3, fun q => Fo (.slice A3 j c3) q ∨ F3 q, B3, j, d3, rfl, p1, fun q hq => ⟨(HG1.out q (.inl hq)).1, p1.lt q hq⟩, p2, fun q hq => ⟨(HG1.out q (.inr (.inl hq))).1, p2.lt q hq⟩, ⟨us.map tailV, hoa', fun q hq => .inl hq, hin.mono (fun q hq => .inr hq), ?_⟩, ?_, hos', d12, ?_, ?_, ?_, ?_, ?_, below_drewN hz⟩
        · intro q hq
          rcases hq with hq | hq
          · exact (hoa'.lt q hq).2
          · exact Nat.lt_of_lt_of_le (hlt3 q hq) (HBR.out.trans (hd.mono HBR.out.size)).size
        · intro q hq
          rcases hq with hq | hq
          · exact ⟨Nat.le_trans HB3.out.size (HFA.out q hq), (hoa'.lt q hq).2⟩
          · exact ⟨(HG1.out q (.inr (.inr hq))).1, Nat.lt_of_lt_of_le (hlt3 q hq) (HBR.out.trans (hd.mono HBR.out.size)).size⟩
        · intro q h1 h2
          rcases h2 with h2 | h2
          · have h3 := (HG1.out q (.inl h1)).2; have h4 := HFA.out q h2; omega
          · exact d13 q h1 h2
        · intro q h1 h2; have h3 := (HG1.out q (.inl h1)).2; have h4 := HFS.out q h2; omega
        · intro q h1 h2
          rcases h2 with h2 | h2
          · have h3 := (HG1.out q (.inr (.inl h1))).2; have h4 := HFA.out q h2; omega
          · exact d23 q h1 h2
        · intro q h1 h2; have h3 := (HG1.out q (.inr (.inl h1))).2; have h4 := HFS.out q h2; omega
        · intro q h1 h2
          rcases h1 with h1 | h1
          · exact own_types2 hoa hos (by decide) q h1 h2
          · have h3 := hlt3 q h1; have h4 := HFS.out q h2; omega
  · have HO : Hid (ciR k ns ws = ([], [], [], [], csC k ns ws)) := Lib.hid (by simp [ciR, hc])
    generalize ciR k ns ws = r at *
    have hcb : (csC k ns ws != 0) = true := by simpa using hc
    generalize hcz : csC k ns ws = z at *
    have HZ := Lib.hid hcz
    clear hcz
    go_enter Try.func42, Try.ntmps42
    go_upto_region 1 with fail
    rw [← hw0]
    clear hw0
    go_wp2_with fail
    refine (setsOf_any _ k A1 n1 c1 ns HR1.out hn1 hc1 A2 n2 c2 ws HR2.out hn2 hc2).mono ?_
    rw [HZ.out]
    rintro e w2 ⟨m', A5, n5, c5, A6, n6, c6, A7, n7, c7, rfl, hb2, _⟩
    have HB2 := Lib.hid (HB.out.trans (hb2.mono HB.out.size))
    clear hb2 q0 q1 q2
    go_wp2_with fail
    ((try simp only [Exit.inBlock, Exit.then]); refine bodyPost_ret (results_tmp5 rfl _ _ _) rfl ?_)
    rw [HO.out]
    exact ciP_nil (HB2.out.trans ((below_new w2 _).mono HB2.out.size))
end Go.Proofs.Ytjgajjcgapifoaa
