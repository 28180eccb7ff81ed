/- The windows of a side (reference). -/
import Derived.Test.YtanicbbgneobpaaGreatPt
import Derived.Test.YtanicbbgneobpaaGreatMk
import Derived.Test.YtanicbbgneobpaaGreatGE
namespace Go.Proofs.YtanicbbgneobpaaGreat
open Go.RowKit
set_option linter.unusedVariables false
set_option linter.unusedSimpArgs false
/-- The blank window and k windows from a cell on. -/
def wl (xs : List Int) (f len k : Nat) : List (List Int) := List.replicate len 0 :: (List.range k).map (fun i => cellsF xs (f + i) len)
theorem wl_snoc (xs : List Int) (f len k : Nat) : wl xs f len (k + 1) = wl xs f len k ++ [cellsF xs (f + k) len] := by simp [wl, List.range_succ]
theorem wl_len (xs : List Int) (f len k : Nat) : ∀ ys ∈ wl xs f len k, ys.length = len := by
  intro ys hy
  rcases List.mem_cons.1 hy with rfl | hy
  · simp
  · obtain ⟨i, _, rfl⟩ := List.mem_map.1 hy
    exact cellsF_len _ _ _
theorem wl_size (xs : List Int) (f len k : Nat) : (wl xs f len k).length = k + 1 := by simp [wl]
def winsOf (xs : List Int) (f len : Nat) : List (List Int) := sortU (wl xs f len (xs.length - f))
theorem putL_size : ∀ (l : List (List Int)) (x : List Int), (putL l x).length ≤ l.length + 1
  | [], x => by simp [putL]
  | y :: r, x => by
    have ih := putL_size r x
    simp only [putL]
    split
    · simp
    · split
      · simp
      · simp only [List.length_cons]; omega
theorem sortU_size (l : List (List Int)) : (sortU l).length ≤ l.length := by
  have h : ∀ (l acc : List (List Int)), (l.foldl putL acc).length ≤ acc.length + l.length := by
    intro l
    induction l with
    | nil => intro acc; simp
    | cons x r ih =>
      intro acc
      have h1 := ih (putL acc x)
      have h2 := putL_size acc x
      simp only [List.foldl_cons, List.length_cons]
      omega
  have := h l []
  simpa [sortU] using this
/-- One row of rows. -/
theorem ownx_one {w w' : World} {B n c g : Nat} {A : Option Addr} {xs : List Int} (ho : w.ownsRow B 2 1 (.slice A n c) n (ints xs)) (hn : n ≤ 1000000000) (hw : w' = w.alloc (.cells #[.slice A n c] 25)) (hg : g = w.heap.size) : OwnX w' (some ⟨g, 0, none⟩) 1 1 [.slice A n c] [xs] := by
  subst hw hg
  have h1 := own_lit w #[.slice A n c] 1 25 rfl (by omega)
  refine ⟨ownN_base h1 (Nat.zero_le _), ?_⟩
  have h2 := (InnerP.nil w (FU [])).snoc (G := FU [.slice A n c]) ho hn (fun k hk => by obtain ⟨u, hu, _⟩ := hk; simp at hu) (fun k hk => by obtain ⟨u, hu, _⟩ := hk; simp at hu) (fun k hk => ⟨_, by simp, hk⟩)
  exact h2.ch (ch_below (F := fun _ => False) (below_new w _)) (fun _ _ h => h)
/-- What putting leaves, by footprint. -/
theorem putq_own {w w2 w3 : World} {A A2 : Option Addr} {n c n2 c2 : Nat} {us : List Value} {xss : List (List Int)} {ys : List Int} {e : Ending} (h : OwnX w A n c us xss) (hri : Rises xss) (hb : Below w.heap.size w w2) (ho : w2.ownsRow w.heap.size 2 1 (.slice A2 n2 c2) n2 (ints ys)) (hn : n2 ≤ 1000000000) (hq : PutQ w2 A n c us xss (.slice A2 n2 c2) ys e w3) :
    ∃ A' n' c' us', e = .returned (.slice A' n' c') ∧ OwnX w3 A' n' c' us' (putL xss ys) ∧ (∀ q, FX A' n' c' us' q → FX A n c us q ∨ w.heap.size ≤ q) ∧ Ch (Fo (.slice A n c)) w2 w3 := by
  rcases hq with ⟨hin, rfl, m, rfl⟩ | ⟨A4, c4, p, rfl, hp, hpl, ho4, hc4, hf4⟩
  · have hc : Ch (Fo (.slice A n c)) w2 (w2.drewN m) := ch_drewN (Ch.refl _ _)
    refine ⟨A, n, c, us, rfl, ?_, fun q hq => .inl hq, hc⟩
    rw [putL_in hri hin]
    exact (h.below hb).ch (ch_drewN (F := fun _ => False) (Ch.refl _ _)) (fun _ _ h => h)
  · have hul : us.length = n := by simpa using h.1.1
    have hxl : xss.length = n := by rw [← hul]; exact h.2.1.symm
    refine ⟨A4, n + 1, c4, insAt us p (.slice A2 n2 c2), rfl, ⟨ho4, ?_⟩, fun q hq => ?_, hc4⟩
    · have h2 := (h.below hb).2
      have hs := h2.snoc (G := FU (us ++ [.slice A2 n2 c2])) ho hn (fun q a b => by have := h.lt (.inr a); have := (ho.lt q b).1; omega) (fun q hq => by obtain ⟨u, hu, hf⟩ := hq; exact ⟨u, by simp [hu], hf⟩) (fun q hq => ⟨_, by simp, hq⟩)
      have e1 := zip_fst_snd (us := us ++ [.slice A2 n2 c2]) (xss := xss ++ [ys]) (by simp [hul, hxl])
      have hs2 : InnerP w2 (FU (us ++ [.slice A2 n2 c2])) (((us ++ [Value.slice A2 n2 c2]).zip (xss ++ [ys])).map Prod.fst) (((us ++ [Value.slice A2 n2 c2]).zip (xss ++ [ys])).map Prod.snd) := by rw [e1.1, e1.2]; exact hs
      have hz : ((us ++ [Value.slice A2 n2 c2]).zip (xss ++ [ys])).Perm (insAt (us.zip xss) p (.slice A2 n2 c2, ys)) := by
        rw [List.zip_append (by omega)]
        exact ins_perm
      have h3 := hs2.perm hz
      rw [← ins_zip (by omega) (by omega)] at h3
      have e2 := zip_fst_snd (us := insAt us p (.slice A2 n2 c2)) (xss := insAt xss p ys) (by rw [ins_len (by omega), ins_len (by omega)]; omega)
      rw [e2.1, e2.2, ← hpl] at h3
      exact (inner_fu h3).ch hc4 (fun q a b => fu_types (ownN_below h.1 hb (Nat.le_refl _)) (inner_fu h3) q a b)
    · rcases hq with hq | hq
      · rcases hf4 q hq with h1 | h1
        · exact .inl (.inl h1)
        · exact .inr (Nat.le_trans hb.size h1)
      · have hq2 := (fu_perm (ins_perm (us := us) (p := p) (u := Value.slice A2 n2 c2)) q).2 hq
        obtain ⟨u, hu, hf⟩ := hq2
        rcases List.mem_append.1 hu with hu | hu
        · exact .inl (.inr ⟨u, hu, hf⟩)
        · simp at hu; subst hu; exact .inr (ho.lt q hf).1
set_option maxHeartbeats 4000000 in
set_option maxRecDepth 100000 in
theorem l29Windows_any (w : World) (A : Option Addr) (n c : Nat) (xs : List Int) (hr : Rd w A n (ints xs)) (hn : n ≤ 900) (f len : Nat) (hf : f ≤ 2) (hl : 1 ≤ len ∧ len ≤ 4) :
    Calls Tryz.prog 33 #[.slice A n c, .int .i64 f, .int .i64 len] w (RetP w (winsOf xs f len)) := by
  have HL : Hid (xs.length = n) := Lib.hid (by simpa using hr.1)
  obtain ⟨w0, hw0⟩ : ∃ w0, w0 = (w.alloc (.cells (madeCells #[.int .i64 0] len) 2)).alloc (.cells #[.slice (some ⟨w.heap.size, 0, none⟩) len len] 25) := ⟨_, rfl⟩
  have hB : Below w.heap.size w w0 := by rw [hw0]; exact (below_new w _).trans ((below_new _ _).mono (by simp))
  have hx0 : OwnX w0 (some ⟨w.heap.size + 1, 0, none⟩) 1 1 [.slice (some ⟨w.heap.size, 0, none⟩) len len] (sortU (wl xs f len 0)) := ownx_one (own_mkz len (by omega) w) (by omega) hw0 (by simp)
  have hf0 : ∀ q, FX (some ⟨w.heap.size + 1, 0, none⟩) 1 1 [.slice (some ⟨w.heap.size, 0, none⟩) len len] q → w.heap.size ≤ q := fun q hq => by
    rcases hq with hq | ⟨u, hu, hq⟩
    · simp [Fo, Value.ownBlock] at hq; omega
    · simp at hu; subst hu; simp [Fo, Value.ownBlock] at hq; omega
  have HX0 := Lib.hid hx0; have HB0 := Lib.hid hB; have HF0 := Lib.hid hf0
  have hmk := fun w => run_mkz len (by omega) w
  have HR := Lib.hid hr
  clear hx0 hB hr hf0
  go_enter Tryz.func33, Tryz.ntmps33
  go_upto_region 2 with fail
  rw [← hw0]
  clear hw0 hmk
  as_aux_lemma =>
  go_wp2_with fail
  go_loopw [7, 8] (fun o q wr => ∃ (k A' : _) (n' c' : Nat) (us : List Value), q = .int .i64 ((f + k : Nat) : Int) ∧ o = .slice A' n' c' ∧ k ≤ n - f ∧ OwnX wr A' n' c' us (sortU (wl xs f len k)) ∧ Hid (∀ q, FX A' n' c' us q → w.heap.size ≤ q) ∧ Below w.heap.size w wr) (fun _ q _ => n - (intOf q).toNat)
  case atStart => exact ⟨0, _, 1, 1, _, by simp, rfl, Nat.zero_le _, HX0.out, HF0, HB0.out⟩
  case round =>
    as_aux_lemma =>
    obtain ⟨k, A', n', c', us, rfl, rfl, hk, hx, HFX, hb⟩ := hrel
    have HX := Lib.hid hx; have HB := Lib.hid hb
    have HSZ : Hid (n' ≤ 1000) := Lib.hid (by have h1 := hx.ownp.rdl.len; have h2 := sortU_size (wl xs f len k); rw [wl_size] at h2; omega)
    clear hx hb
    by_cases hlt : f + k < n
    · have hlt' : ((f + k : Nat) : Int) < (n : Int) := by omega
      have hk1 : f + k ≤ 1000 := by omega
      have hw1 : wrap64 (((f + k : Nat) : Int) + 1) = ((f + (k + 1) : Nat) : Int) := by unfold wrap64; omega
      have HW1 := Lib.hid hw1
      obtain ⟨fk, hfk⟩ : ∃ fk, fk = f + k := ⟨_, rfl⟩
      rw [← hfk] at hlt' hk1
      rw [← hfk]
      have HFK := Lib.hid hfk
      clear hw1 hfk
      go_wp2_with fail
      refine (l29First_any wr A n c xs (HR.out.below HB.out (Nat.le_refl _)) (by omega) fk len _ _ rfl rfl hk1 (by omega)).mono ?_
      rintro e w2 ⟨A2, n2, c2, rfl, ho2, hb2⟩
      have HO2 := Lib.hid ho2; have HB2 := Lib.hid hb2
      have HN2 : Hid (n2 ≤ 1000) := Lib.hid (by have h := ho2.1; simp only [List.length_map, cellsF_len] at h; omega)
      clear ho2 hb2
      go_wp2_with fail
      refine (l29Put_go w2 A' n' c' us _ (HX.out.below HB2.out) (by have := HSZ.out; omega) (sortU_rises _) A2 n2 c2 _ (own_rd HO2.out) (by have := HN2.out; omega)).mono ?_
      rintro e w3 hq
      obtain ⟨A3, n3, c3, us3, rfl, hx3, hf3, hc3⟩ := putq_own HX.out (sortU_rises _) HB2.out HO2.out (by have := HN2.out; omega) hq
      have HX3 : Hid (OwnX w3 A3 n3 c3 us3 (sortU (wl xs f len (k + 1)))) := Lib.hid (by rw [wl_snoc, sortU_snoc, ← HFK.out]; exact hx3)
      have HF3 : Hid (∀ q, FX A3 n3 c3 us3 q → w.heap.size ≤ q) := Lib.hid (fun q hq => (hf3 q hq).elim (HFX.out q) (fun h => Nat.le_trans HB.out.size h))
      have HB3 : Hid (Below w.heap.size w w3) := Lib.hid (below_ch (HB.out.trans (HB2.out.mono HB.out.size)) hc3 (fun q hq => HFX.out q (.inl hq)) (Nat.le_trans HB.out.size HB2.out.size))
      clear hq hx3 hf3 hc3
      go_wp2_with fail
      go_roundw
      case rel => exact ⟨k + 1, A3, n3, c3, us3, (by rw [HFK.out]; congr 1), rfl, by omega, HX3.out, HF3, HB3.out⟩
      case measure => rw [HFK.out]; simp only [intOf]; omega
    · have HE : Hid (wl xs f len k = wl xs f len (xs.length - f)) := Lib.hid (by rw [HL.out, show n - f = k by omega])
      have hge : ¬ ((f + k : Nat) : Int) < (n : Int) := by omega
      go_wp2_with fail
      go_ret
      exact ⟨A', n', c', FX A' n' c' us, rfl, by unfold winsOf; rw [← HE.out]; exact HX.out.ownp, fun q hq => ⟨HFX.out q hq, HX.out.lt hq⟩, HB.out⟩
end Go.Proofs.YtanicbbgneobpaaGreat
